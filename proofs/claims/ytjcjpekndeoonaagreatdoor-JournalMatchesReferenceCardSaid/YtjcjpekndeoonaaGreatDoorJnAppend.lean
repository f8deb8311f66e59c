/-
  'Append'.
-/
import Derived.Test.YtjcjpekndeoonaaGreatDoorJnApC
import Derived.Test.YtjcjpekndeoonaaGreatDoorAnyOrd
namespace Go.Cz
/-- The piece at a place. -/
def pick : List Piece → Nat → Piece
  | [], _ => blk 0 (.cells #[] 0 (0, 0))
  | p :: _, 0 => p
  | _ :: ps, n + 1 => pick ps n
theorem pick_take : ∀ (k : Nat) (ps : List Piece), k ≤ ps.length → (List.range k).map (pick ps) = ps.take k
  | 0, _, _ => by simp
  | k + 1, [], h => by simp at h
  | k + 1, p :: ps, h => by
    rw [List.range_succ_eq_map, List.map_cons, List.map_map, List.take_succ_cons]
    exact congrArg (p :: ·) (pick_take k ps (by simpa using h))
/-- The first pieces in another order. -/
theorem Owns.re {w0 w : World} {ps : List Piece} (h : Owns w0 w ps) (σ : List Nat) (hσ : σ.isPerm (List.range σ.length) = true := by decide) (hk : σ.length ≤ ps.length := by first | (simp only [List.length_cons, List.length_nil]; omega) | (simp [pick]; omega) | simp [pick]) : Owns w0 w (σ.map (pick ps) ++ ps.drop σ.length) := by
  refine h.perm ?_
  have h1 : (σ.map (pick ps)).Perm (ps.take σ.length) := by
    rw [← pick_take _ _ hk]
    exact (List.isPerm_iff.1 hσ).map _
  have h2 := (h1.append_right (ps.drop σ.length)).symm
  rw [List.take_append_drop] at h2
  exact h2
end Go.Cz
namespace Go.Proofs.YtjcjpekndeoonaaGreatDoor
open Go.RowKit Go.Cz Go.Cz.Jn
set_option linter.unusedSimpArgs false
set_option linter.unusedVariables false
attribute [local go_sem] bs_size bs_extract bs_append bs_toList
attribute [local irreducible] cList cPlan
/-- The result that lies in a cell. -/
theorem leave_cell {R : Ending → World → Prop} {tmps : Array Value} {w : World} {b : Nat} {x : Int} (ht : tmps.getD 4 undef = .pointer (some ⟨b, 0, none⟩)) (hc : w.cell? ⟨b, 0, none⟩ = some (.int .i64 x)) (h : R (.returned (.int .i64 x)) w) : Leaves Tryz.prog Tryz.f13 tmps R [] .returning w := by
  refine ⟨.int .i64 x, ?_, h⟩
  rw [Array.getD_eq_getD_getElem?] at ht
  simp [results, Tryz.results13, ht, hc, go_sem]
/-- What 'Append' leaves. -/
def AppP (w0 : World) (db jb : Nat) (m : Dk.Dm) (j : Jm) (l : List Bytes) (ps : List Piece) (e : Ending) (w' : World) : Prop :=
  ∃ rv, e = .returned (.int .i64 (appendB m j l).2.1) ∧ Owns w0 w' (jblk jb db (appendB m j l).2.2.sectors (appendB m j l).2.2.count rv (appendB m j l).2.2.broken :: trow rv (appendB m j l).2.2.recs :: disk db (appendB m j l).1 :: ps)
set_option maxRecDepth 10000 in
set_option maxHeartbeats 8000000 in
theorem Append_c {w0 w : World} {ps : List Piece} {m : Dk.Dm} {db jb sec cnt : Nat} {rv : Value} {br : Bool} {recs l : List Bytes} {x : Option Addr} {n c : Nat} (h : Owns w0 w (jblk jb db sec cnt rv br :: trow rv recs :: disk db m :: ps)) (hT : ∀ w', Owns w0 w' ps → IsTexts w' x n l) (hl : (textB l).length ≤ 1000000) (hn : n ≤ 1000000) (hq : m.q.length ≤ 1000) (hc : cnt + 2 ≤ sec) (hsec : sec ≤ 4000) (hr : recs.length ≤ 1000000) (hs : Std w0) :
    Calls Tryz.prog 13 #[.pointer (some ⟨jb, 0, none⟩), .slice x n c] w (AppP w0 db jb m ⟨sec, cnt, recs, br⟩ l ps) := by
  have HS := Lib.hid hs
  have HT := Lib.hid hT
  have HL := Lib.hid hl
  have HQ := Lib.hid hq
  have HRl := Lib.hid hr
  have HN := Lib.hid hn
  have HC := Lib.hid (And.intro hc hsec)
  obtain ⟨W1, hW1⟩ : ∃ W1, W1 = (w.alloc (.cells #[.pointer (some ⟨jb, 0, none⟩)] 25)).alloc (.cells #[.int .i64 0] 27) := ⟨_, rfl⟩
  obtain ⟨b2, hb2⟩ : ∃ b2, b2 = w.heap.size := ⟨_, rfl⟩
  obtain ⟨b4, hb4⟩ : ∃ b4, b4 = w.heap.size + 1 := ⟨_, rfl⟩
  have HOe : Hid (∀ er : Int, Owns w0 ((w.alloc (.cells #[.pointer (some ⟨jb, 0, none⟩)] 25)).alloc (.cells #[.int .i64 er] 27)) (one (w.heap.size + 1) 27 (.int .i64 er) :: one w.heap.size 25 (.pointer (some ⟨jb, 0, none⟩)) :: jblk jb db sec cnt rv br :: trow rv recs :: disk db m :: ps)) := fun er => by
    have h1 := (h.box (.cells #[.pointer (some ⟨jb, 0, none⟩)] 25)).box (.cells #[.int .i64 er] 27)
    rw [show (w.alloc (.cells #[.pointer (some ⟨jb, 0, none⟩)] 25)).heap.size = w.heap.size + 1 by simp] at h1
    exact h1
  obtain ⟨bk, -⟩ := h.blk
  have hj := lt_of_block bk
  have cj4 : w.cell? ⟨jb, 4, none⟩ = some (.bool br) := by rw [cell_of_heap bk]; rfl
  clear hs hT hl hq hr hn hc hsec h bk
  go_enter_defers Tryz.func13, Tryz.ntmps13
  cases br
  case «true» =>
    have HA : Hid (appendB m ⟨sec, cnt, recs, true⟩ l = (m, 12, ⟨sec, cnt, recs, true⟩)) := rfl
    have HO := Lib.hid (HOe.out 12)
    clear HOe
    go_wp2_with fail
    refine leave_cell rfl (by exact (Owns.one HO.out).2.1) ⟨rv, by rw [HA.out], ?_⟩
    rw [HA.out]
    exact HO.out.pop.pop
  case «false» =>
    have HO : Hid (Owns w0 W1 (one b4 27 (.int .i64 0) :: one b2 25 (.pointer (some ⟨jb, 0, none⟩)) :: jblk jb db sec cnt rv false :: trow rv recs :: disk db m :: ps)) := by
      rw [hW1, hb2, hb4]
      exact Lib.hid (HOe.out 0)
    clear HOe
    go_wp2_with fail
    rw [← hb4, ← hb2, ← hW1]
    clear hb4 hb2 hW1 hj cj4
    go_at_call 44
    refine (long_c x n c l _ (HT.out _ HO.out.pop.pop.pop.pop.pop) (by have := HN.out; omega)).mono ?_
    rintro e w2 ⟨rfl, hw⟩
    rw [hw]
    clear hw w2
    by_cases hlg : longB l = true
    · rw [hlg]
      have HA : Hid (appendB m ⟨sec, cnt, recs, false⟩ l = (m, 2, ⟨sec, cnt, recs, false⟩)) := by show _ = _; unfold appendB; rw [if_neg (by simp), if_pos hlg]
      obtain ⟨h4, c4, f4⟩ := Owns.one HO.out
      obtain ⟨h2, c2, -⟩ := Owns.one HO.out.swap
      obtain ⟨bk, -⟩ := (HO.out.rot).blk
      have hj := lt_of_block bk
      replace HO := Lib.hid (HO.out.store (i := 0) (.int .i64 2))
      clear bk hlg
      go_wp2_with fail
      refine leave_cell rfl (by exact (Owns.one HO.out).2.1) ⟨rv, by rw [HA.out], ?_⟩
      rw [HA.out]
      exact HO.out.pop.pop
    · have hlf : longB l = false := by simpa using hlg
      have HLf := Lib.hid hlf
      rw [hlf]
      clear hlf hlg
      go_wp2_with fail
      go_at_call 47
      refine (textJ_c x n c l _ (HT.out _ HO.out.pop.pop.pop.pop.pop) (by have := HL.out; omega) (by have := HN.out; omega) (HS.out.below HO.out.base)).mono ?_
      rintro e w2 ⟨rfl, hb⟩
      replace HO := Lib.hid (HO.out.below hb)
      obtain ⟨t, ht⟩ : ∃ t, t = textB l := ⟨_, rfl⟩
      have HTx := Lib.hid ht
      rw [← ht]
      clear hb ht
      go_wp2_with fail
      go_at_call 46
      refine (split_c t w2 w2 (Below.refl _ _) (by rw [HTx.out]; have := HL.out; omega)).mono ?_
      rintro e w3 ⟨pv, rfl, htr⟩
      replace HO := Lib.hid (Owns.trow HO.out htr)
      obtain ⟨P, hP⟩ : ∃ P, P = piecesB t := ⟨_, rfl⟩
      have HP := Lib.hid hP
      rw [← hP] at HO
      obtain ⟨xp, np, cp, rfl, hpt⟩ := Owns.texts HO.out
      have HPl := Lib.hid hpt.len
      have hnp : np ≤ 1000000 := by
        have h1 := hpt.len
        have h2 := piecesB_le t
        have h3 := HL.out
        rw [← HTx.out] at h3
        rw [hP] at h1
        omega
      clear htr hP hpt
      obtain ⟨h4, c4, f4⟩ := Owns.one HO.out.swap
      obtain ⟨h2, c2, -⟩ := Owns.one HO.out.rot
      obtain ⟨bk, -⟩ := (HO.out.rot4).blk
      have hj := lt_of_block bk
      clear bk
      go_wp2_with fail
      go_at_call 14
      refine (Room_c HO.out.rot4 (by have := HC.out; omega) (by have := HC.out; omega)).mono ?_
      rintro e w4 ⟨rfl, hb⟩
      replace HO := Lib.hid (HO.out.below hb)
      clear hb c4 c2 f4 h4 h2 hj
      obtain ⟨rm, hrm⟩ : ∃ rm : Nat, (rm : Int) = (sec : Int) - 2 - (cnt : Int) := ⟨sec - 2 - cnt, by have := HC.out; omega⟩
      rw [← hrm]
      by_cases hro : rm < np
      · have hro2 : (rm : Int) < (np : Int) := by omega
        have HA : Hid (appendB m ⟨sec, cnt, recs, false⟩ l = (m, 28, ⟨sec, cnt, recs, false⟩)) := by
          show _ = _
          unfold appendB
          rw [if_neg (by simp), if_neg (by rw [HLf.out]; decide), ← HTx.out, ← HP.out, HPl.out, if_pos (by unfold Jm.room; dsimp only; rw [← hrm]; exact hro2)]
        replace HO := Lib.hid HO.out.pop
        obtain ⟨h4, c4, f4⟩ := Owns.one HO.out
        obtain ⟨h2, c2, -⟩ := Owns.one HO.out.swap
        obtain ⟨bk, -⟩ := (HO.out.rot).blk
        have hj := lt_of_block bk
        replace HO := Lib.hid (HO.out.store (i := 0) (.int .i64 28))
        clear bk hro hrm
        go_wp2_with fail
        refine leave_cell rfl (by exact (Owns.one HO.out).2.1) ⟨rv, by rw [HA.out], ?_⟩
        rw [HA.out]
        exact HO.out.pop.pop
      · have hro2 : ¬ (rm : Int) < (np : Int) := by omega
        by_cases hn0 : n = 0
        · have HA : Hid (appendB m ⟨sec, cnt, recs, false⟩ l = (m, 0, ⟨sec, cnt, recs, false⟩)) := by
            show _ = _
            have hle := (HT.out _ HO.out.pop.pop.pop.pop.pop.pop).len
            unfold appendB
            rw [if_neg (by simp), if_neg (by rw [HLf.out]; decide), ← HTx.out, ← HP.out, HPl.out, if_neg (by unfold Jm.room; dsimp only; rw [← hrm]; exact hro2), if_pos (List.length_eq_zero_iff.1 (by omega))]
          replace HO := Lib.hid HO.out.pop
          obtain ⟨h4, c4, f4⟩ := Owns.one HO.out
          obtain ⟨h2, c2, -⟩ := Owns.one HO.out.swap
          obtain ⟨bk, -⟩ := (HO.out.rot).blk
          have hj := lt_of_block bk
          replace HO := Lib.hid (HO.out.store (i := 0) (.int .i64 0))
          clear bk hro hrm
          go_wp2_with fail
          refine leave_cell rfl (by exact (Owns.one HO.out).2.1) ⟨rv, by rw [HA.out], ?_⟩
          rw [HA.out]
          exact HO.out.pop.pop
        · have hnz : ((n : Int) == 0) = false := by simp; omega
          have HNz := Lib.hid hn0
          have hroom : cnt + np + 2 ≤ 4000 := by have := HC.out; omega
          have HPlen : Hid (np ≤ 4000) := by show _ ≤ _; omega
          have HAp : Hid (appendB m ⟨sec, cnt, recs, false⟩ l = ((stepsB m cnt P).1, (stepsB m cnt P).2, if (stepsB m cnt P).2 = 0 then ⟨sec, cnt + np, recs ++ l, false⟩ else ⟨sec, cnt, recs, true⟩)) := by
            show _ = _
            have hle := (HT.out _ HO.out.pop.pop.pop.pop.pop.pop).len
            unfold appendB
            rw [if_neg (by simp), if_neg (by rw [HLf.out]; decide), ← HTx.out, ← HP.out, HPl.out, if_neg (by unfold Jm.room; dsimp only; rw [← hrm]; exact hro2), if_neg (fun h0 => hn0 (by rw [← hle, h0]; rfl))]
          clear hn0 hro hrm
          have hmf : ∀ (fn : Fn) (first cap : Array Value) (w : World), (Instr.makeFunc fn first cap).run Tryz.prog w = .ok (.func fn first cap) w := fun _ _ _ _ => rfl
          go_wp2_with fail
          obtain ⟨h4, c4, f4⟩ := Owns.one HO.out.swap
          obtain ⟨h2, c2, -⟩ := Owns.one HO.out.rot
          obtain ⟨bk, -⟩ := (HO.out.rot4).blk
          have hj := lt_of_block bk
          have cj2 : w4.cell? ⟨jb, 2, none⟩ = some (.int .i64 (cnt : Int)) := by rw [cell_of_heap bk]; rfl
          obtain ⟨fr, hfr⟩ : ∃ fr, fr = 2 + cnt := ⟨_, rfl⟩
          obtain ⟨nx, hnx⟩ : ∃ nx, nx = cnt + np := ⟨_, rfl⟩
          have HFr := Lib.hid hfr
          have HNx := Lib.hid hnx
          have efr : (2 : Int) + (cnt : Int) = (fr : Int) := by omega
          have enx : (cnt : Int) + (np : Int) = (nx : Int) := by omega
          have lfr : fr ≤ 4000 := by omega
          have lnx : nx ≤ 4000 := by omega
          clear bk hfr hnx hroom
          apply cut2 (Hyp := fun b6 b7 W => Hid (Owns w0 W (one b6 3 (.int .i64 (fr : Int)) :: one b7 3 (.int .i64 (nx : Int)) :: trow (.slice xp np cp) P :: one b4 27 (.int .i64 0) :: one b2 25 (.pointer (some ⟨jb, 0, none⟩)) :: jblk jb db sec cnt rv false :: trow rv recs :: disk db m :: ps)))
          focus
            intro key
            refine wp_region_walk [] 16 (by kernel_rfl) (by kernel_rfl) ?_
            refine cw_step 0 (by decide +kernel) (by decide +kernel) (by decide +kernel) ?_; (refine cw_do rfl rfl rfl (by first | rfl | simp [okB, lenV, plainV, Act.eval]) (fun _ _ => ?_); go_wp2_with fail)
            refine cw_step 1 (by decide +kernel) (by decide +kernel) (by decide +kernel) ?_; (refine cw_do rfl rfl rfl (by first | rfl | simp [okB, lenV, plainV, Act.eval]) (fun _ _ => ?_); go_wp2_with fail)
            refine cw_step 2 (by decide +kernel) (by decide +kernel) (by decide +kernel) ?_; (refine cw_do rfl rfl rfl (by first | rfl | simp [okB, lenV, plainV, Act.eval]) (fun _ _ => ?_); go_wp2_with fail)
            refine cw_step 3 (by decide +kernel) (by decide +kernel) (by decide +kernel) ?_; (refine cw_do rfl rfl rfl (by first | rfl | simp [okB, lenV, plainV, Act.eval]) (fun _ _ => ?_); go_wp2_with fail)
            refine cw_step 4 (by decide +kernel) (by decide +kernel) (by decide +kernel) ?_; (refine cw_do rfl rfl rfl (by first | rfl | simp [okB, lenV, plainV, Act.eval]) (fun _ _ => ?_); go_wp2_with fail)
            refine cw_step 9 (by decide +kernel) (by decide +kernel) (by decide +kernel) ?_; (refine cw_do rfl rfl rfl (by first | rfl | simp [okB, lenV, plainV, Act.eval]) (fun _ _ => ?_); go_wp2_with fail)
            refine cw_step 10 (by decide +kernel) (by decide +kernel) (by decide +kernel) ?_; (refine cw_do rfl rfl rfl (by first | rfl | simp [okB, lenV, plainV, Act.eval]) (fun _ _ => ?_); go_wp2_with fail)
            repeat' (first | (refine cw_step 6 (by decide +kernel) (by decide +kernel) (by decide +kernel) ?_; (refine cw_do rfl rfl rfl (by first | rfl | simp [okB, lenV, plainV, Act.eval]) (fun _ _ => ?_); go_wp2_with fail)) | (refine cw_step 7 (by decide +kernel) (by decide +kernel) (by decide +kernel) ?_; (refine cw_do rfl rfl rfl (by first | rfl | simp [okB, lenV, plainV, Act.eval]) (fun _ _ => ?_); go_wp2_with fail)) | (refine cw_step 11 (by decide +kernel) (by decide +kernel) (by decide +kernel) ?_; (refine cw_do rfl rfl rfl (by first | rfl | simp [okB, lenV, plainV, Act.eval]) (fun _ _ => ?_); go_wp2_with fail)) | (refine cw_step 15 (by decide +kernel) (by decide +kernel) (by decide +kernel) ?_; (refine cw_do rfl rfl rfl (by first | rfl | simp [okB, lenV, plainV, Act.eval]) (fun _ _ => ?_); go_wp2_with fail)) | (refine cw_step 5 (by decide +kernel) (by decide +kernel) (by decide +kernel) ?_; (refine cw_do rfl rfl rfl (by first | rfl | simp [okB, lenV, plainV, Act.eval]) (fun _ _ => ?_); go_wp2_with fail)) | (refine cw_step 8 (by decide +kernel) (by decide +kernel) (by decide +kernel) ?_; (refine cw_do rfl rfl rfl (by first | rfl | simp [okB, lenV, plainV, Act.eval]) (fun _ _ => ?_); go_wp2_with fail)) | (refine cw_step 12 (by decide +kernel) (by decide +kernel) (by decide +kernel) ?_; (refine cw_do rfl rfl rfl (by first | rfl | simp [okB, lenV, plainV, Act.eval]) (fun _ _ => ?_); go_wp2_with fail)) | (refine cw_step 13 (by decide +kernel) (by decide +kernel) (by decide +kernel) ?_; (refine cw_do rfl rfl rfl (by first | rfl | simp [okB, lenV, plainV, Act.eval]) (fun _ _ => ?_); go_wp2_with fail)) | (refine cw_step 14 (by decide +kernel) (by decide +kernel) (by decide +kernel) ?_; (refine cw_do rfl rfl rfl (by first | rfl | simp [okB, lenV, plainV, Act.eval]) (fun _ _ => ?_); go_wp2_with fail)) | (refine cw_three 5 12 13 (by decide +kernel) ?_ ?_ ?_ <;> (refine cw_do rfl rfl rfl (by first | rfl | simp [okB, lenV, plainV, Act.eval]) (fun _ _ => ?_); go_wp2_with fail)) | (refine cw_three 8 12 13 (by decide +kernel) ?_ ?_ ?_ <;> (refine cw_do rfl rfl rfl (by first | rfl | simp [okB, lenV, plainV, Act.eval]) (fun _ _ => ?_); go_wp2_with fail)) | (refine cw_two 5 12 (by decide +kernel) ?_ ?_ <;> (refine cw_do rfl rfl rfl (by first | rfl | simp [okB, lenV, plainV, Act.eval]) (fun _ _ => ?_); go_wp2_with fail)) | (refine cw_two 5 13 (by decide +kernel) ?_ ?_ <;> (refine cw_do rfl rfl rfl (by first | rfl | simp [okB, lenV, plainV, Act.eval]) (fun _ _ => ?_); go_wp2_with fail)) | (refine cw_two 8 12 (by decide +kernel) ?_ ?_ <;> (refine cw_do rfl rfl rfl (by first | rfl | simp [okB, lenV, plainV, Act.eval]) (fun _ _ => ?_); go_wp2_with fail)) | (refine cw_two 8 13 (by decide +kernel) ?_ ?_ <;> (refine cw_do rfl rfl rfl (by first | rfl | simp [okB, lenV, plainV, Act.eval]) (fun _ _ => ?_); go_wp2_with fail)) | (refine cw_two 12 13 (by decide +kernel) ?_ ?_ <;> (refine cw_do rfl rfl rfl (by first | rfl | simp [okB, lenV, plainV, Act.eval]) (fun _ _ => ?_); go_wp2_with fail)) | (refine cw_two 5 14 (by decide +kernel) ?_ ?_ <;> (refine cw_do rfl rfl rfl (by first | rfl | simp [okB, lenV, plainV, Act.eval]) (fun _ _ => ?_); go_wp2_with fail)) | (refine cw_two 8 14 (by decide +kernel) ?_ ?_ <;> (refine cw_do rfl rfl rfl (by first | rfl | simp [okB, lenV, plainV, Act.eval]) (fun _ _ => ?_); go_wp2_with fail)) | (refine cw_nil (by decide +kernel) ?_))
            focus
              have HA := (HO.out.box (.cells #[.int .i64 (fr : Int)] 3)).box (.cells #[.int .i64 (nx : Int)] 3) |>.drew.swap
              rw [show (w4.alloc (.cells #[.int .i64 (fr : Int)] 3)).heap.size = w4.heap.size + 1 by simp] at HA
              replace HA := Lib.hid HA
              generalize hW : ((w4.alloc (.cells #[.int .i64 (fr : Int)] 3)).alloc (.cells #[.int .i64 (nx : Int)] 3)).drew = W at HA ⊢
              generalize h7 : w4.heap.size + 1 = b7 at HA ⊢
              generalize h6 : w4.heap.size = b6 at HA ⊢
              exact key b6 b7 W HA
            all_goals
              first
              | (have HA := (HO.out.box (.cells #[.int .i64 (fr : Int)] 3)).box (.cells #[.int .i64 (nx : Int)] 3) |>.drew.swap
                 rw [show (w4.alloc (.cells #[.int .i64 (fr : Int)] 3)).heap.size = w4.heap.size + 1 by simp] at HA
                 exact key _ _ _ (Lib.hid HA))
              | (have HA := (HO.out.box (.cells #[.int .i64 (nx : Int)] 3)).box (.cells #[.int .i64 (fr : Int)] 3) |>.drew
                 rw [show (w4.alloc (.cells #[.int .i64 (nx : Int)] 3)).heap.size = w4.heap.size + 1 by simp] at HA
                 exact key _ _ _ (Lib.hid HA))
          clear HO h4 c4 f4 h2 c2 hj cj2
          intro b6 b7 W HO
          obtain ⟨W2, hW2⟩ : ∃ W2, W2 = (W.alloc (.cells #[.slice none 0 0] 26)).alloc (.cells #[.slice none 0 0] 26) := ⟨_, rfl⟩
          obtain ⟨b8, hb8⟩ : ∃ b8, b8 = W.heap.size := ⟨_, rfl⟩
          obtain ⟨b9, hb9⟩ : ∃ b9, b9 = W.heap.size + 1 := ⟨_, rfl⟩
          have HO1 : Hid (Owns w0 W2 (trow (.slice none 0 0) (List.replicate 0 zeroB) :: one b8 26 (.slice none 0 0) :: trow (.slice none 0 0) (fullTo cnt P 0) :: one b9 26 (.slice none 0 0) :: trow (.slice xp np cp) P :: one b6 3 (.int .i64 (fr : Int)) :: one b7 3 (.int .i64 (nx : Int)) :: one b4 27 (.int .i64 0) :: one b2 25 (.pointer (some ⟨jb, 0, none⟩)) :: jblk jb db sec cnt rv false :: trow rv recs :: disk db m :: ps)) := by
            have h1 := (HO.out.box (.cells #[.slice none 0 0] 26)).box (.cells #[.slice none 0 0] 26)
            rw [show (W.alloc (.cells #[.slice none 0 0] 26)).heap.size = W.heap.size + 1 by simp, ← hW2, ← hb9, ← hb8] at h1
            have h2 := trow_base (v := .slice none 0 0) (l := []) h1 (World.ownsRow_nil _ _ _ _) (Below.refl _ _)
            have h3 := trow_base (v := .slice none 0 0) (l := []) h2 (World.ownsRow_nil _ _ _ _) (Below.refl _ _)
            exact Lib.hid (h3.re [1, 3, 0, 2, 6, 4, 5])
          have HPm : Hid (∀ p ∈ P, p.length ≤ 46) := fun p hp => by rw [HP.out] at hp; exact (piecesB_mem hp).2
          have hp4 : np ≤ 4000 := HPlen.out
          clear HO
          go_wp2_with fail
          rw [← hb9, ← hb8, ← hW2]
          clear hb9 hb8 hW2
          go_loopg [51] np (fun gk i wr => ∃ (k : Nat) (v8 v9 : Value), gk = np - k ∧ k ≤ np ∧ i = .int .i64 (k : Int) ∧ Hid (Owns w0 wr (trow v8 (List.replicate k zeroB) :: one b8 26 v8 :: trow v9 (fullTo cnt P k) :: one b9 26 v9 :: trow (.slice xp np cp) P :: one b6 3 (.int .i64 (fr : Int)) :: one b7 3 (.int .i64 (nx : Int)) :: one b4 27 (.int .i64 0) :: one b2 25 (.pointer (some ⟨jb, 0, none⟩)) :: jblk jb db sec cnt rv false :: trow rv recs :: disk db m :: ps)))
          case atStart => exact ⟨0, _, _, rfl, Nat.zero_le _, rfl, HO1⟩
          case round =>
            rename_i J1 K1 hJ1 hK1
            clear HO1
            obtain ⟨k, v8, v9, rfl, hk, rfl, HO⟩ := hrel
            obtain ⟨x8, n8, c8, rfl, -⟩ := Owns.texts HO.out
            obtain ⟨x9, n9, c9, rfl, -⟩ := Owns.texts HO.out.pop.pop
            by_cases hlt : k < np
            · obtain ⟨gp, op, s, rfl, hs, hg, cs⟩ := (show IsTexts wr xp np P by
                obtain ⟨x', n', c', he, ht⟩ := Owns.texts (HO.out.re [4, 0, 1, 2, 3])
                cases he
                exact ht).get hlt
              have HSn := Lib.hid (fullTo_succ (c := cnt) hs)
              have HSl : Hid (s.length ≤ 46) := HPm.out s (List.mem_of_getElem? hs)
              clear hs
              go_wp2_with fail
              clear cs hg
              refine wp_region_can [1] (List.range 5) (by kernel_rfl) (by kernel_rfl) ?_
              replace HO := Lib.hid HO.out.drew
              obtain ⟨h8, q8, f8⟩ := Owns.one HO.out.swap
              refine cl_do rfl rfl rfl rfl (fun _ _ => ?_)
              go_wp2_with fail
              refine cl_call (i := 1) rfl rfl rfl (fun K hK => ?_)
              go_wp2_with fail
              go_at_call 40
              refine (zeroJ_c _).mono ?_
              rintro e w5 ⟨rfl, hb⟩
              have Hb := Lib.hid hb
              replace HO := Lib.hid ((HO.out.below hb).alloc (.cells #[.string (bs zeroB)] 9))
              obtain ⟨z, hz⟩ : ∃ z, z = zeroB := ⟨_, rfl⟩
              have HZ := Lib.hid hz
              rw [← hz] at HO ⊢
              have hrow := Owns.row HO.out
              rw [List.length_replicate] at hrow
              have Hrow := Lib.hid hrow
              clear hb h8 q8 f8 hz hrow
              go_wp2_with fail
              refine And.intro Hb.out ?_
              clear Hb
              refine cl_do rfl rfl rfl rfl (fun _ _ => ?_)
              go_wp2_with fail
              refine cl_do rfl rfl rfl rfl (fun K hK => ?_)
              refine wp_append (.tmp 56) (.tmp 58) 26 (by rfl) 9 _ 1 16 Tryz.underlying26 info_jstr (by rfl) (by omega) _ k _ (by rfl) Hrow.out w5.heap.size 1 1 [.string (bs z)] (by rfl) (by rfl) 9 (by exact new_heap w5 _ _ rfl) (by simp [Value.oneCell']) (by omega) (by omega) ?_
              intro v8 w6 hrow hgrow hblk
              replace HO := Lib.hid (Owns.grew (l' := List.replicate (k + 1) z) HO.out (by rw [List.length_replicate, List.replicate_succ', show tcs (List.replicate k z ++ [z]) = tcs (List.replicate k z) ++ [.string (bs z)] by simp [tcs]]; exact hrow) hgrow hblk)
              clear hrow hgrow hblk Hrow
              obtain ⟨x8, n8, c8, rfl, -⟩ := Owns.texts HO.out
              obtain ⟨h8, q8, f8⟩ := Owns.one HO.out.swap
              replace HO := Lib.hid (HO.out.swap.store (i := 0) (.slice x8 n8 c8)).swap
              go_wp2_with fail
              refine cl_do rfl rfl rfl rfl (fun _ _ => ?_)
              go_wp2_with fail
              refine cl_nil ?_
              go_wp2_with fail
              obtain ⟨W7, hW7⟩ : ∃ W7, W7 = w6.setCell ⟨b8, 0, none⟩ (.slice x8 n8 c8) := ⟨_, rfl⟩
              rw [← hW7] at HO ⊢
              clear hW7 h8 q8 f8
              refine wp_region_can [5] (List.range 9) (by kernel_rfl) (by kernel_rfl) ?_
              replace HO : Hid (Owns w0 W7.drew (trow (.slice x9 n9 c9) (fullTo cnt P k) :: one b9 26 (.slice x9 n9 c9) :: trow (.slice x8 n8 c8) (List.replicate (k + 1) z) :: one b8 26 (.slice x8 n8 c8) :: trow (.slice (some ⟨gp, op, none⟩) np cp) P :: one b6 3 (.int .i64 (fr : Int)) :: one b7 3 (.int .i64 (nx : Int)) :: one b4 27 (.int .i64 0) :: one b2 25 (.pointer (some ⟨jb, 0, none⟩)) :: jblk jb db sec cnt rv false :: trow rv recs :: disk db m :: ps)) := (HO.out.re [2, 3, 0, 1]).drew
              obtain ⟨h9, q9, f9⟩ := Owns.one HO.out.swap
              obtain ⟨h6, q6, -⟩ := Owns.one (HO.out.re [5, 0, 1, 2, 3, 4])
              obtain ⟨pk, hpk⟩ : ∃ pk, pk = fr + k := ⟨_, rfl⟩
              have epk : (fr : Int) + (k : Int) = (pk : Int) := by omega
              have lpk : pk ≤ 8000 := by omega
              have HSn2 : Hid (fullTo cnt P (k + 1) = fullTo cnt P k ++ [sectorB pk s]) := by
                show _ = _
                rw [HSn.out, hpk, HFr.out]
              clear hpk HSn
              iterate 5 (refine cl_do rfl rfl rfl rfl (fun _ _ => ?_); go_wp2_with fail)
              refine cl_call (i := 5) rfl rfl rfl (fun K hK => ?_)
              go_wp2_with fail
              go_at_call 35
              refine (sectorJ_c pk s (by omega) (by have := HSl.out; omega) _ (HS.out.below HO.out.base)).mono ?_
              rintro e w8 ⟨rfl, hb⟩
              have Hb := Lib.hid hb
              obtain ⟨y, hy⟩ : ∃ y, y = sectorB pk s := ⟨_, rfl⟩
              have hyl : y.length = 64 := by rw [hy]; exact sectorB_len _ _
              replace HO := Lib.hid ((HO.out.below hb).alloc (.cells #[.string (bs y)] 9))
              rw [← hy] at HSn2 ⊢
              have hrow := Owns.row HO.out
              rw [fullTo_len] at hrow
              have Hrow := Lib.hid hrow
              clear hb h9 q9 f9 h6 q6 hy hrow
              go_wp2_with fail
              refine And.intro Hb.out ?_
              clear Hb
              refine cl_do rfl rfl rfl rfl (fun _ _ => ?_)
              go_wp2_with fail
              refine cl_do rfl rfl rfl rfl (fun K hK => ?_)
              refine wp_append (.tmp 60) (.tmp 66) 26 (by rfl) 9 _ 1 16 Tryz.underlying26 info_jstr (by rfl) (by omega) _ k _ (by rfl) Hrow.out w8.heap.size 1 1 [.string (bs y)] (by rfl) (by rfl) 9 (by exact new_heap w8 _ _ rfl) (by simp [Value.oneCell']) (by omega) (by omega) ?_
              intro v9 w9 hrow hgrow hblk
              replace HO := Lib.hid (Owns.grew (l' := fullTo cnt P (k + 1)) HO.out (by rw [fullTo_len, HSn2.out, show tcs (fullTo cnt P k ++ [y]) = tcs (fullTo cnt P k) ++ [.string (bs y)] by simp [tcs]]; exact hrow) hgrow hblk)
              clear hrow hgrow hblk Hrow
              obtain ⟨x9, n9, c9, rfl, -⟩ := Owns.texts HO.out
              obtain ⟨h9, q9, f9⟩ := Owns.one HO.out.swap
              replace HO := Lib.hid ((HO.out.swap.store (i := 0) (.slice x9 n9 c9)).swap.re [2, 3, 0, 1])
              rw [HZ.out] at HO
              go_wp2_with fail
              refine cl_do rfl rfl rfl rfl (fun _ _ => ?_)
              go_wp2_with fail
              refine cl_nil ?_
              go_wp2_with fail
              go_roundg (np - (k + 1))
              case measure => omega
              case rel => exact ⟨k + 1, _, _, rfl, by omega, by go_num, HO⟩
            · obtain rfl : k = np := by omega
              obtain ⟨D, E, hD0, hD, hst⟩ := steps_law m cnt P
              obtain ⟨g4, hg4⟩ : ∃ g4, g4 = wr.heap.size := ⟨_, rfl⟩
              obtain ⟨W8, hW8⟩ : ∃ W8, W8 = wr.alloc (.cells #[.func (.func 49) #[] #[.pointer (some ⟨b2, 0, none⟩), .pointer (some ⟨b6, 0, none⟩), .pointer (some ⟨b8, 0, none⟩)], .func (.func 50) #[] #[.pointer (some ⟨b2, 0, none⟩), .pointer (some ⟨b6, 0, none⟩), .pointer (some ⟨b9, 0, none⟩)], .func (.func 51) #[] #[.pointer (some ⟨b2, 0, none⟩), .pointer (some ⟨b7, 0, none⟩)], .func (.func 52) #[] #[.pointer (some ⟨b2, 0, none⟩), .pointer (some ⟨b7, 0, none⟩)]] 75) := ⟨_, rfl⟩
              have HO2 : Hid (Owns w0 W8 (disk db (D 0) :: jblk jb db sec cnt rv false :: one b2 25 (.pointer (some ⟨jb, 0, none⟩)) :: one b6 3 (.int .i64 (fr : Int)) :: one b7 3 (.int .i64 (nx : Int)) :: trow (.slice x8 n8 c8) (rowsB cnt P 0) :: one b8 26 (.slice x8 n8 c8) :: trow (.slice x9 n9 c9) (rowsB cnt P 1) :: one b9 26 (.slice x9 n9 c9) :: one b4 27 (.int .i64 0) :: blk g4 (.cells #[.func (.func 49) #[] #[.pointer (some ⟨b2, 0, none⟩), .pointer (some ⟨b6, 0, none⟩), .pointer (some ⟨b8, 0, none⟩)], .func (.func 50) #[] #[.pointer (some ⟨b2, 0, none⟩), .pointer (some ⟨b6, 0, none⟩), .pointer (some ⟨b9, 0, none⟩)], .func (.func 51) #[] #[.pointer (some ⟨b2, 0, none⟩), .pointer (some ⟨b7, 0, none⟩)], .func (.func 52) #[] #[.pointer (some ⟨b2, 0, none⟩), .pointer (some ⟨b7, 0, none⟩)]] 75 (0, 0)) :: trow rv recs :: trow (.slice xp k cp) P :: ps)) := by
                have h1 := HO.out
                rw [show List.replicate k zeroB = rowsB cnt P 0 by rw [← HPl.out]; exact zeros_all P, show fullTo cnt P k = rowsB cnt P 1 by rw [← HPl.out]; rfl] at h1
                rw [hD0, hW8, hg4]
                exact Lib.hid ((h1.box _).re [12, 10, 9, 6, 7, 1, 2, 3, 4, 8, 0, 11, 5])
              have HD := Lib.hid hD
              have HSt := Lib.hid hst
              have HQ0 : Hid ((D 0).q.length ≤ 1000 + 5000 * 0) := by rw [hD0]; exact Lib.hid HQ.out
              clear HO hD0 hD hst hJ1 hK1
              go_wp2_with fail
              rw [← hg4, ← hW8]
              clear hg4 hW8
              go_loopg [75] 4 (fun gk i wr => ∃ q : Nat, gk = 4 - q ∧ q ≤ 4 ∧ i = .int .i64 (q : Int) ∧ Hid (∀ j, j < q → E j = 0) ∧ Hid ((D q).q.length ≤ 1000 + 5000 * q) ∧ Hid (Owns w0 wr (disk db (D q) :: jblk jb db sec cnt rv false :: one b2 25 (.pointer (some ⟨jb, 0, none⟩)) :: one b6 3 (.int .i64 (fr : Int)) :: one b7 3 (.int .i64 (nx : Int)) :: trow (.slice x8 n8 c8) (rowsB cnt P 0) :: one b8 26 (.slice x8 n8 c8) :: trow (.slice x9 n9 c9) (rowsB cnt P 1) :: one b9 26 (.slice x9 n9 c9) :: one b4 27 (.int .i64 0) :: blk g4 (.cells #[.func (.func 49) #[] #[.pointer (some ⟨b2, 0, none⟩), .pointer (some ⟨b6, 0, none⟩), .pointer (some ⟨b8, 0, none⟩)], .func (.func 50) #[] #[.pointer (some ⟨b2, 0, none⟩), .pointer (some ⟨b6, 0, none⟩), .pointer (some ⟨b9, 0, none⟩)], .func (.func 51) #[] #[.pointer (some ⟨b2, 0, none⟩), .pointer (some ⟨b7, 0, none⟩)], .func (.func 52) #[] #[.pointer (some ⟨b2, 0, none⟩), .pointer (some ⟨b7, 0, none⟩)]] 75 (0, 0)) :: trow rv recs :: trow (.slice xp k cp) P :: ps)))
              case atStart => exact ⟨0, rfl, Nat.zero_le _, rfl, Lib.hid fun j hj => absurd hj (Nat.not_lt_zero _), HQ0, HO2⟩
              case round =>
                rename_i J2 K2 hJ2 hK2
                clear HO2 HQ0
                obtain ⟨q, rfl, hq4, rfl, HE0, HQ, HO⟩ := hrel
                by_cases hlt : q < 4
                · obtain ⟨bk, -⟩ := (HO.out.re [10, 0, 1, 2, 3, 4, 5, 6, 7, 8, 9]).blk
                  have h10 := lt_of_block bk
                  rcases (by omega : q = 0 ∨ q = 1 ∨ q = 2 ∨ q = 3) with rfl | rfl | rfl | rfl
                  · have cg : wr.cell? ⟨g4, 0, none⟩ = some (.func (.func 49) #[] #[.pointer (some ⟨b2, 0, none⟩), .pointer (some ⟨b6, 0, none⟩), .pointer (some ⟨b8, 0, none⟩)]) := by rw [cell_of_heap bk]; rfl
                    have hw : writesB (D 0) fr (rowsB cnt P 0) = (D 1, E 0) := by have h1 := HD.out 0 (by omega); rw [show placeB cnt 0 = fr from HFr.out.symm] at h1; exact h1
                    have hwq := writes_q (rowsB cnt P 0) (D 0) (placeB cnt 0)
                    rw [HD.out 0 (by omega)] at hwq
                    replace hwq : (D 1).q.length ≤ (D 0).q.length + (rowsB cnt P 0).length := hwq
                    have hrl := rowsB_len cnt P 0
                    rw [HPl.out] at hrl
                    have HQ2 : Hid ((D 1).q.length ≤ 1000 + 5000 * 1) := by
                      show _ ≤ _
                      have h2 := HQ.out
                      have h3 := HPlen.out
                      omega
                    have HW := Lib.hid hw
                    clear hw hwq hrl bk
                    go_wp2_with fail
                    refine (clo1_c fr (HO.out.re [0, 1, 5, 2, 3, 6, 4]) (by have := HFr.out; omega) (by rw [show (rowsB cnt P 0).length = k by rw [← HPl.out]; simp [rowsB]]; omega) (by rw [show (rowsB cnt P 0).length = k by rw [← HPl.out]; simp [rowsB]]; have := HQ.out; omega)).mono ?_
                    rintro e w5 ⟨rfl, ho⟩
                    rw [HW.out] at ho ⊢
                    have HO : Hid (Owns w0 w5 (disk db (D 1) :: jblk jb db sec cnt rv false :: one b2 25 (.pointer (some ⟨jb, 0, none⟩)) :: one b6 3 (.int .i64 (fr : Int)) :: one b7 3 (.int .i64 (nx : Int)) :: trow (.slice x8 n8 c8) (rowsB cnt P 0) :: one b8 26 (.slice x8 n8 c8) :: trow (.slice x9 n9 c9) (rowsB cnt P 1) :: one b9 26 (.slice x9 n9 c9) :: one b4 27 (.int .i64 0) :: blk g4 (.cells #[.func (.func 49) #[] #[.pointer (some ⟨b2, 0, none⟩), .pointer (some ⟨b6, 0, none⟩), .pointer (some ⟨b8, 0, none⟩)], .func (.func 50) #[] #[.pointer (some ⟨b2, 0, none⟩), .pointer (some ⟨b6, 0, none⟩), .pointer (some ⟨b9, 0, none⟩)], .func (.func 51) #[] #[.pointer (some ⟨b2, 0, none⟩), .pointer (some ⟨b7, 0, none⟩)], .func (.func 52) #[] #[.pointer (some ⟨b2, 0, none⟩), .pointer (some ⟨b7, 0, none⟩)]] 75 (0, 0)) :: trow rv recs :: trow (.slice xp k cp) P :: ps)) := ho.re [0, 1, 3, 4, 6, 2, 5]
                    clear ho HW cg h10
                    obtain ⟨h4, q4, f4⟩ := Owns.one (HO.out.re [9, 0, 1, 2, 3, 4, 5, 6, 7, 8])
                    by_cases he : E 0 = 0
                    · have hz : (E 0 == 0) = true := by simpa using he
                      have HO2 : Hid (Owns w0 (w5.setCell ⟨b4, 0, none⟩ (.int .i64 (E 0))) (disk db (D 1) :: jblk jb db sec cnt rv false :: one b2 25 (.pointer (some ⟨jb, 0, none⟩)) :: one b6 3 (.int .i64 (fr : Int)) :: one b7 3 (.int .i64 (nx : Int)) :: trow (.slice x8 n8 c8) (rowsB cnt P 0) :: one b8 26 (.slice x8 n8 c8) :: trow (.slice x9 n9 c9) (rowsB cnt P 1) :: one b9 26 (.slice x9 n9 c9) :: one b4 27 (.int .i64 0) :: blk g4 (.cells #[.func (.func 49) #[] #[.pointer (some ⟨b2, 0, none⟩), .pointer (some ⟨b6, 0, none⟩), .pointer (some ⟨b8, 0, none⟩)], .func (.func 50) #[] #[.pointer (some ⟨b2, 0, none⟩), .pointer (some ⟨b6, 0, none⟩), .pointer (some ⟨b9, 0, none⟩)], .func (.func 51) #[] #[.pointer (some ⟨b2, 0, none⟩), .pointer (some ⟨b7, 0, none⟩)], .func (.func 52) #[] #[.pointer (some ⟨b2, 0, none⟩), .pointer (some ⟨b7, 0, none⟩)]] 75 (0, 0)) :: trow rv recs :: trow (.slice xp k cp) P :: ps)) := by
                        have h1 := (HO.out.re [9, 0, 1, 2, 3, 4, 5, 6, 7, 8]).store (i := 0) (.int .i64 (E 0))
                        have h2 := h1.re [1, 2, 3, 4, 5, 6, 7, 8, 9, 0]
                        have h3 : Owns w0 (w5.setCell ⟨b4, 0, none⟩ (.int .i64 (E 0))) (disk db (D 1) :: jblk jb db sec cnt rv false :: one b2 25 (.pointer (some ⟨jb, 0, none⟩)) :: one b6 3 (.int .i64 (fr : Int)) :: one b7 3 (.int .i64 (nx : Int)) :: trow (.slice x8 n8 c8) (rowsB cnt P 0) :: one b8 26 (.slice x8 n8 c8) :: trow (.slice x9 n9 c9) (rowsB cnt P 1) :: one b9 26 (.slice x9 n9 c9) :: one b4 27 (.int .i64 (E 0)) :: blk g4 (.cells #[.func (.func 49) #[] #[.pointer (some ⟨b2, 0, none⟩), .pointer (some ⟨b6, 0, none⟩), .pointer (some ⟨b8, 0, none⟩)], .func (.func 50) #[] #[.pointer (some ⟨b2, 0, none⟩), .pointer (some ⟨b6, 0, none⟩), .pointer (some ⟨b9, 0, none⟩)], .func (.func 51) #[] #[.pointer (some ⟨b2, 0, none⟩), .pointer (some ⟨b7, 0, none⟩)], .func (.func 52) #[] #[.pointer (some ⟨b2, 0, none⟩), .pointer (some ⟨b7, 0, none⟩)]] 75 (0, 0)) :: trow rv recs :: trow (.slice xp k cp) P :: ps) := h2
                        rw [show (one b4 27 (.int .i64 (E 0))) = one b4 27 (.int .i64 0) by rw [he]] at h3
                        exact Lib.hid h3
                      have HE2 : Hid (∀ j, j < 1 → E j = 0) := fun j hj => by
                        by_cases hjq : j < 0
                        · exact HE0.out j hjq
                        · obtain rfl : j = 0 := by omega
                          exact he
                      clear he HO
                      go_wp2_with fail
                      go_roundg (4 - 1)
                      case measure => omega
                      case rel => exact ⟨1, rfl, by omega, by go_num, HE2, HQ2, HO2⟩
                    · have hz : (E 0 == 0) = false := by simpa using he
                      have hbr : (E 0 != 0) = true := by simpa using he
                      have HAe : Hid (appendB m ⟨sec, cnt, recs, false⟩ l = (D 1, E 0, ⟨sec, cnt, recs, true⟩)) := by
                        show _ = _
                        rw [HAp.out, HSt.out 0 (by omega) HE0.out (.inl he), if_neg he]
                      have HBr := Lib.hid hbr
                      have HO2 := Lib.hid (((HO.out.re [9, 0, 1, 2, 3, 4, 5, 6, 7, 8]).store (i := 0) (.int .i64 (E 0))).store (i := 0) (.int .i64 (E 0)))
                      clear he hbr HO hJ2 hK2 HQ HQ2
                      go_wp2_with fail
                      refine leaves_cons (f := 48) (args := #[.pointer (some ⟨b4, 0, none⟩), .pointer (some ⟨b2, 0, none⟩)]) (by simp) (by simp [go_sem]) ?_
                      refine (last_c (E 0) .returning (HO2.out.re [2, 3, 0, 1])).mono ?_
                      rintro e u' w'' ⟨rfl, rfl, ho⟩
                      rw [HBr.out] at ho
                      show Leaves _ _ _ _ [] .returning _
                      refine leave_cell rfl (by exact (Owns.one (ho.re [2, 0, 1])).2.1) ⟨rv, by rw [HAe.out], ?_⟩
                      rw [HAe.out]
                      exact (ho.re [1, 2, 4, 5, 6, 7, 8, 9, 10, 12, 0, 11, 3]).pop.pop.pop.pop.pop.pop.pop.pop.pop.pop
                  · have cg : wr.cell? ⟨g4, 1, none⟩ = some (.func (.func 50) #[] #[.pointer (some ⟨b2, 0, none⟩), .pointer (some ⟨b6, 0, none⟩), .pointer (some ⟨b9, 0, none⟩)]) := by rw [cell_of_heap bk]; rfl
                    have hw : writesB (D 1) fr (rowsB cnt P 1) = (D 2, E 1) := by have h1 := HD.out 1 (by omega); rw [show placeB cnt 1 = fr from HFr.out.symm] at h1; exact h1
                    have hwq := writes_q (rowsB cnt P 1) (D 1) (placeB cnt 1)
                    rw [HD.out 1 (by omega)] at hwq
                    replace hwq : (D 2).q.length ≤ (D 1).q.length + (rowsB cnt P 1).length := hwq
                    have hrl := rowsB_len cnt P 1
                    rw [HPl.out] at hrl
                    have HQ2 : Hid ((D 2).q.length ≤ 1000 + 5000 * 2) := by
                      show _ ≤ _
                      have h2 := HQ.out
                      have h3 := HPlen.out
                      omega
                    have HW := Lib.hid hw
                    clear hw hwq hrl bk
                    go_wp2_with fail
                    refine (clo2_c fr (HO.out.re [0, 1, 7, 2, 3, 8, 4, 5, 6]) (by have := HFr.out; omega) (by rw [show (rowsB cnt P 1).length = k by rw [← HPl.out]; exact fullB_len _ _]; omega) (by rw [show (rowsB cnt P 1).length = k by rw [← HPl.out]; exact fullB_len _ _]; have := HQ.out; omega)).mono ?_
                    rintro e w5 ⟨rfl, ho⟩
                    rw [HW.out] at ho ⊢
                    have HO : Hid (Owns w0 w5 (disk db (D 2) :: jblk jb db sec cnt rv false :: one b2 25 (.pointer (some ⟨jb, 0, none⟩)) :: one b6 3 (.int .i64 (fr : Int)) :: one b7 3 (.int .i64 (nx : Int)) :: trow (.slice x8 n8 c8) (rowsB cnt P 0) :: one b8 26 (.slice x8 n8 c8) :: trow (.slice x9 n9 c9) (rowsB cnt P 1) :: one b9 26 (.slice x9 n9 c9) :: one b4 27 (.int .i64 0) :: blk g4 (.cells #[.func (.func 49) #[] #[.pointer (some ⟨b2, 0, none⟩), .pointer (some ⟨b6, 0, none⟩), .pointer (some ⟨b8, 0, none⟩)], .func (.func 50) #[] #[.pointer (some ⟨b2, 0, none⟩), .pointer (some ⟨b6, 0, none⟩), .pointer (some ⟨b9, 0, none⟩)], .func (.func 51) #[] #[.pointer (some ⟨b2, 0, none⟩), .pointer (some ⟨b7, 0, none⟩)], .func (.func 52) #[] #[.pointer (some ⟨b2, 0, none⟩), .pointer (some ⟨b7, 0, none⟩)]] 75 (0, 0)) :: trow rv recs :: trow (.slice xp k cp) P :: ps)) := ho.re [0, 1, 3, 4, 6, 7, 8, 2, 5]
                    clear ho HW cg h10
                    obtain ⟨h4, q4, f4⟩ := Owns.one (HO.out.re [9, 0, 1, 2, 3, 4, 5, 6, 7, 8])
                    by_cases he : E 1 = 0
                    · have hz : (E 1 == 0) = true := by simpa using he
                      have HO2 : Hid (Owns w0 (w5.setCell ⟨b4, 0, none⟩ (.int .i64 (E 1))) (disk db (D 2) :: jblk jb db sec cnt rv false :: one b2 25 (.pointer (some ⟨jb, 0, none⟩)) :: one b6 3 (.int .i64 (fr : Int)) :: one b7 3 (.int .i64 (nx : Int)) :: trow (.slice x8 n8 c8) (rowsB cnt P 0) :: one b8 26 (.slice x8 n8 c8) :: trow (.slice x9 n9 c9) (rowsB cnt P 1) :: one b9 26 (.slice x9 n9 c9) :: one b4 27 (.int .i64 0) :: blk g4 (.cells #[.func (.func 49) #[] #[.pointer (some ⟨b2, 0, none⟩), .pointer (some ⟨b6, 0, none⟩), .pointer (some ⟨b8, 0, none⟩)], .func (.func 50) #[] #[.pointer (some ⟨b2, 0, none⟩), .pointer (some ⟨b6, 0, none⟩), .pointer (some ⟨b9, 0, none⟩)], .func (.func 51) #[] #[.pointer (some ⟨b2, 0, none⟩), .pointer (some ⟨b7, 0, none⟩)], .func (.func 52) #[] #[.pointer (some ⟨b2, 0, none⟩), .pointer (some ⟨b7, 0, none⟩)]] 75 (0, 0)) :: trow rv recs :: trow (.slice xp k cp) P :: ps)) := by
                        have h1 := (HO.out.re [9, 0, 1, 2, 3, 4, 5, 6, 7, 8]).store (i := 0) (.int .i64 (E 1))
                        have h2 := h1.re [1, 2, 3, 4, 5, 6, 7, 8, 9, 0]
                        have h3 : Owns w0 (w5.setCell ⟨b4, 0, none⟩ (.int .i64 (E 1))) (disk db (D 2) :: jblk jb db sec cnt rv false :: one b2 25 (.pointer (some ⟨jb, 0, none⟩)) :: one b6 3 (.int .i64 (fr : Int)) :: one b7 3 (.int .i64 (nx : Int)) :: trow (.slice x8 n8 c8) (rowsB cnt P 0) :: one b8 26 (.slice x8 n8 c8) :: trow (.slice x9 n9 c9) (rowsB cnt P 1) :: one b9 26 (.slice x9 n9 c9) :: one b4 27 (.int .i64 (E 1)) :: blk g4 (.cells #[.func (.func 49) #[] #[.pointer (some ⟨b2, 0, none⟩), .pointer (some ⟨b6, 0, none⟩), .pointer (some ⟨b8, 0, none⟩)], .func (.func 50) #[] #[.pointer (some ⟨b2, 0, none⟩), .pointer (some ⟨b6, 0, none⟩), .pointer (some ⟨b9, 0, none⟩)], .func (.func 51) #[] #[.pointer (some ⟨b2, 0, none⟩), .pointer (some ⟨b7, 0, none⟩)], .func (.func 52) #[] #[.pointer (some ⟨b2, 0, none⟩), .pointer (some ⟨b7, 0, none⟩)]] 75 (0, 0)) :: trow rv recs :: trow (.slice xp k cp) P :: ps) := h2
                        rw [show (one b4 27 (.int .i64 (E 1))) = one b4 27 (.int .i64 0) by rw [he]] at h3
                        exact Lib.hid h3
                      have HE2 : Hid (∀ j, j < 2 → E j = 0) := fun j hj => by
                        by_cases hjq : j < 1
                        · exact HE0.out j hjq
                        · obtain rfl : j = 1 := by omega
                          exact he
                      clear he HO
                      go_wp2_with fail
                      go_roundg (4 - 2)
                      case measure => omega
                      case rel => exact ⟨2, rfl, by omega, by go_num, HE2, HQ2, HO2⟩
                    · have hz : (E 1 == 0) = false := by simpa using he
                      have hbr : (E 1 != 0) = true := by simpa using he
                      have HAe : Hid (appendB m ⟨sec, cnt, recs, false⟩ l = (D 2, E 1, ⟨sec, cnt, recs, true⟩)) := by
                        show _ = _
                        rw [HAp.out, HSt.out 1 (by omega) HE0.out (.inl he), if_neg he]
                      have HBr := Lib.hid hbr
                      have HO2 := Lib.hid (((HO.out.re [9, 0, 1, 2, 3, 4, 5, 6, 7, 8]).store (i := 0) (.int .i64 (E 1))).store (i := 0) (.int .i64 (E 1)))
                      clear he hbr HO hJ2 hK2 HQ HQ2
                      go_wp2_with fail
                      refine leaves_cons (f := 48) (args := #[.pointer (some ⟨b4, 0, none⟩), .pointer (some ⟨b2, 0, none⟩)]) (by simp) (by simp [go_sem]) ?_
                      refine (last_c (E 1) .returning (HO2.out.re [2, 3, 0, 1])).mono ?_
                      rintro e u' w'' ⟨rfl, rfl, ho⟩
                      rw [HBr.out] at ho
                      show Leaves _ _ _ _ [] .returning _
                      refine leave_cell rfl (by exact (Owns.one (ho.re [2, 0, 1])).2.1) ⟨rv, by rw [HAe.out], ?_⟩
                      rw [HAe.out]
                      exact (ho.re [1, 2, 4, 5, 6, 7, 8, 9, 10, 12, 0, 11, 3]).pop.pop.pop.pop.pop.pop.pop.pop.pop.pop
                  · have cg : wr.cell? ⟨g4, 2, none⟩ = some (.func (.func 51) #[] #[.pointer (some ⟨b2, 0, none⟩), .pointer (some ⟨b7, 0, none⟩)]) := by rw [cell_of_heap bk]; rfl
                    have hw : writesB (D 2) 1 [headB 1 nx] = (D 3, E 2) := by have h1 := HD.out 2 (by omega); rw [show rowsB cnt P 2 = [headB 1 nx] by rw [HNx.out, ← HPl.out]; rfl] at h1; exact h1
                    have hwq := writes_q (rowsB cnt P 2) (D 2) (placeB cnt 2)
                    rw [HD.out 2 (by omega)] at hwq
                    replace hwq : (D 3).q.length ≤ (D 2).q.length + (rowsB cnt P 2).length := hwq
                    have hrl := rowsB_len cnt P 2
                    rw [HPl.out] at hrl
                    have HQ2 : Hid ((D 3).q.length ≤ 1000 + 5000 * 3) := by
                      show _ ≤ _
                      have h2 := HQ.out
                      have h3 := HPlen.out
                      omega
                    have HW := Lib.hid hw
                    clear hw hwq hrl bk
                    go_wp2_with fail
                    refine (clo3_c nx (HO.out.re [0, 1, 2, 4, 3]) (by omega) (by have := HQ.out; omega) HS.out).mono ?_
                    rintro e w5 ⟨rfl, ho⟩
                    rw [HW.out] at ho ⊢
                    have HO : Hid (Owns w0 w5 (disk db (D 3) :: jblk jb db sec cnt rv false :: one b2 25 (.pointer (some ⟨jb, 0, none⟩)) :: one b6 3 (.int .i64 (fr : Int)) :: one b7 3 (.int .i64 (nx : Int)) :: trow (.slice x8 n8 c8) (rowsB cnt P 0) :: one b8 26 (.slice x8 n8 c8) :: trow (.slice x9 n9 c9) (rowsB cnt P 1) :: one b9 26 (.slice x9 n9 c9) :: one b4 27 (.int .i64 0) :: blk g4 (.cells #[.func (.func 49) #[] #[.pointer (some ⟨b2, 0, none⟩), .pointer (some ⟨b6, 0, none⟩), .pointer (some ⟨b8, 0, none⟩)], .func (.func 50) #[] #[.pointer (some ⟨b2, 0, none⟩), .pointer (some ⟨b6, 0, none⟩), .pointer (some ⟨b9, 0, none⟩)], .func (.func 51) #[] #[.pointer (some ⟨b2, 0, none⟩), .pointer (some ⟨b7, 0, none⟩)], .func (.func 52) #[] #[.pointer (some ⟨b2, 0, none⟩), .pointer (some ⟨b7, 0, none⟩)]] 75 (0, 0)) :: trow rv recs :: trow (.slice xp k cp) P :: ps)) := ho.re [0, 1, 2, 4, 3]
                    clear ho HW cg h10
                    obtain ⟨h4, q4, f4⟩ := Owns.one (HO.out.re [9, 0, 1, 2, 3, 4, 5, 6, 7, 8])
                    by_cases he : E 2 = 0
                    · have hz : (E 2 == 0) = true := by simpa using he
                      have HO2 : Hid (Owns w0 (w5.setCell ⟨b4, 0, none⟩ (.int .i64 (E 2))) (disk db (D 3) :: jblk jb db sec cnt rv false :: one b2 25 (.pointer (some ⟨jb, 0, none⟩)) :: one b6 3 (.int .i64 (fr : Int)) :: one b7 3 (.int .i64 (nx : Int)) :: trow (.slice x8 n8 c8) (rowsB cnt P 0) :: one b8 26 (.slice x8 n8 c8) :: trow (.slice x9 n9 c9) (rowsB cnt P 1) :: one b9 26 (.slice x9 n9 c9) :: one b4 27 (.int .i64 0) :: blk g4 (.cells #[.func (.func 49) #[] #[.pointer (some ⟨b2, 0, none⟩), .pointer (some ⟨b6, 0, none⟩), .pointer (some ⟨b8, 0, none⟩)], .func (.func 50) #[] #[.pointer (some ⟨b2, 0, none⟩), .pointer (some ⟨b6, 0, none⟩), .pointer (some ⟨b9, 0, none⟩)], .func (.func 51) #[] #[.pointer (some ⟨b2, 0, none⟩), .pointer (some ⟨b7, 0, none⟩)], .func (.func 52) #[] #[.pointer (some ⟨b2, 0, none⟩), .pointer (some ⟨b7, 0, none⟩)]] 75 (0, 0)) :: trow rv recs :: trow (.slice xp k cp) P :: ps)) := by
                        have h1 := (HO.out.re [9, 0, 1, 2, 3, 4, 5, 6, 7, 8]).store (i := 0) (.int .i64 (E 2))
                        have h2 := h1.re [1, 2, 3, 4, 5, 6, 7, 8, 9, 0]
                        have h3 : Owns w0 (w5.setCell ⟨b4, 0, none⟩ (.int .i64 (E 2))) (disk db (D 3) :: jblk jb db sec cnt rv false :: one b2 25 (.pointer (some ⟨jb, 0, none⟩)) :: one b6 3 (.int .i64 (fr : Int)) :: one b7 3 (.int .i64 (nx : Int)) :: trow (.slice x8 n8 c8) (rowsB cnt P 0) :: one b8 26 (.slice x8 n8 c8) :: trow (.slice x9 n9 c9) (rowsB cnt P 1) :: one b9 26 (.slice x9 n9 c9) :: one b4 27 (.int .i64 (E 2)) :: blk g4 (.cells #[.func (.func 49) #[] #[.pointer (some ⟨b2, 0, none⟩), .pointer (some ⟨b6, 0, none⟩), .pointer (some ⟨b8, 0, none⟩)], .func (.func 50) #[] #[.pointer (some ⟨b2, 0, none⟩), .pointer (some ⟨b6, 0, none⟩), .pointer (some ⟨b9, 0, none⟩)], .func (.func 51) #[] #[.pointer (some ⟨b2, 0, none⟩), .pointer (some ⟨b7, 0, none⟩)], .func (.func 52) #[] #[.pointer (some ⟨b2, 0, none⟩), .pointer (some ⟨b7, 0, none⟩)]] 75 (0, 0)) :: trow rv recs :: trow (.slice xp k cp) P :: ps) := h2
                        rw [show (one b4 27 (.int .i64 (E 2))) = one b4 27 (.int .i64 0) by rw [he]] at h3
                        exact Lib.hid h3
                      have HE2 : Hid (∀ j, j < 3 → E j = 0) := fun j hj => by
                        by_cases hjq : j < 2
                        · exact HE0.out j hjq
                        · obtain rfl : j = 2 := by omega
                          exact he
                      clear he HO
                      go_wp2_with fail
                      go_roundg (4 - 3)
                      case measure => omega
                      case rel => exact ⟨3, rfl, by omega, by go_num, HE2, HQ2, HO2⟩
                    · have hz : (E 2 == 0) = false := by simpa using he
                      have hbr : (E 2 != 0) = true := by simpa using he
                      have HAe : Hid (appendB m ⟨sec, cnt, recs, false⟩ l = (D 3, E 2, ⟨sec, cnt, recs, true⟩)) := by
                        show _ = _
                        rw [HAp.out, HSt.out 2 (by omega) HE0.out (.inl he), if_neg he]
                      have HBr := Lib.hid hbr
                      have HO2 := Lib.hid (((HO.out.re [9, 0, 1, 2, 3, 4, 5, 6, 7, 8]).store (i := 0) (.int .i64 (E 2))).store (i := 0) (.int .i64 (E 2)))
                      clear he hbr HO hJ2 hK2 HQ HQ2
                      go_wp2_with fail
                      refine leaves_cons (f := 48) (args := #[.pointer (some ⟨b4, 0, none⟩), .pointer (some ⟨b2, 0, none⟩)]) (by simp) (by simp [go_sem]) ?_
                      refine (last_c (E 2) .returning (HO2.out.re [2, 3, 0, 1])).mono ?_
                      rintro e u' w'' ⟨rfl, rfl, ho⟩
                      rw [HBr.out] at ho
                      show Leaves _ _ _ _ [] .returning _
                      refine leave_cell rfl (by exact (Owns.one (ho.re [2, 0, 1])).2.1) ⟨rv, by rw [HAe.out], ?_⟩
                      rw [HAe.out]
                      exact (ho.re [1, 2, 4, 5, 6, 7, 8, 9, 10, 12, 0, 11, 3]).pop.pop.pop.pop.pop.pop.pop.pop.pop.pop
                  · have cg : wr.cell? ⟨g4, 3, none⟩ = some (.func (.func 52) #[] #[.pointer (some ⟨b2, 0, none⟩), .pointer (some ⟨b7, 0, none⟩)]) := by rw [cell_of_heap bk]; rfl
                    have hw : writesB (D 3) 0 [headB 0 nx] = (D 4, E 3) := by have h1 := HD.out 3 (by omega); rw [show rowsB cnt P 3 = [headB 0 nx] by rw [HNx.out, ← HPl.out]; rfl] at h1; exact h1
                    have hwq := writes_q (rowsB cnt P 3) (D 3) (placeB cnt 3)
                    rw [HD.out 3 (by omega)] at hwq
                    replace hwq : (D 4).q.length ≤ (D 3).q.length + (rowsB cnt P 3).length := hwq
                    have hrl := rowsB_len cnt P 3
                    rw [HPl.out] at hrl
                    have HQ2 : Hid ((D 4).q.length ≤ 1000 + 5000 * 4) := by
                      show _ ≤ _
                      have h2 := HQ.out
                      have h3 := HPlen.out
                      omega
                    have HW := Lib.hid hw
                    clear hw hwq hrl bk
                    go_wp2_with fail
                    refine (clo4_c nx (HO.out.re [0, 1, 2, 4, 3]) (by omega) (by have := HQ.out; omega) HS.out).mono ?_
                    rintro e w5 ⟨rfl, ho⟩
                    rw [HW.out] at ho ⊢
                    have HO : Hid (Owns w0 w5 (disk db (D 4) :: jblk jb db sec cnt rv false :: one b2 25 (.pointer (some ⟨jb, 0, none⟩)) :: one b6 3 (.int .i64 (fr : Int)) :: one b7 3 (.int .i64 (nx : Int)) :: trow (.slice x8 n8 c8) (rowsB cnt P 0) :: one b8 26 (.slice x8 n8 c8) :: trow (.slice x9 n9 c9) (rowsB cnt P 1) :: one b9 26 (.slice x9 n9 c9) :: one b4 27 (.int .i64 0) :: blk g4 (.cells #[.func (.func 49) #[] #[.pointer (some ⟨b2, 0, none⟩), .pointer (some ⟨b6, 0, none⟩), .pointer (some ⟨b8, 0, none⟩)], .func (.func 50) #[] #[.pointer (some ⟨b2, 0, none⟩), .pointer (some ⟨b6, 0, none⟩), .pointer (some ⟨b9, 0, none⟩)], .func (.func 51) #[] #[.pointer (some ⟨b2, 0, none⟩), .pointer (some ⟨b7, 0, none⟩)], .func (.func 52) #[] #[.pointer (some ⟨b2, 0, none⟩), .pointer (some ⟨b7, 0, none⟩)]] 75 (0, 0)) :: trow rv recs :: trow (.slice xp k cp) P :: ps)) := ho.re [0, 1, 2, 4, 3]
                    clear ho HW cg h10
                    obtain ⟨h4, q4, f4⟩ := Owns.one (HO.out.re [9, 0, 1, 2, 3, 4, 5, 6, 7, 8])
                    by_cases he : E 3 = 0
                    · have hz : (E 3 == 0) = true := by simpa using he
                      have HO2 : Hid (Owns w0 (w5.setCell ⟨b4, 0, none⟩ (.int .i64 (E 3))) (disk db (D 4) :: jblk jb db sec cnt rv false :: one b2 25 (.pointer (some ⟨jb, 0, none⟩)) :: one b6 3 (.int .i64 (fr : Int)) :: one b7 3 (.int .i64 (nx : Int)) :: trow (.slice x8 n8 c8) (rowsB cnt P 0) :: one b8 26 (.slice x8 n8 c8) :: trow (.slice x9 n9 c9) (rowsB cnt P 1) :: one b9 26 (.slice x9 n9 c9) :: one b4 27 (.int .i64 0) :: blk g4 (.cells #[.func (.func 49) #[] #[.pointer (some ⟨b2, 0, none⟩), .pointer (some ⟨b6, 0, none⟩), .pointer (some ⟨b8, 0, none⟩)], .func (.func 50) #[] #[.pointer (some ⟨b2, 0, none⟩), .pointer (some ⟨b6, 0, none⟩), .pointer (some ⟨b9, 0, none⟩)], .func (.func 51) #[] #[.pointer (some ⟨b2, 0, none⟩), .pointer (some ⟨b7, 0, none⟩)], .func (.func 52) #[] #[.pointer (some ⟨b2, 0, none⟩), .pointer (some ⟨b7, 0, none⟩)]] 75 (0, 0)) :: trow rv recs :: trow (.slice xp k cp) P :: ps)) := by
                        have h1 := (HO.out.re [9, 0, 1, 2, 3, 4, 5, 6, 7, 8]).store (i := 0) (.int .i64 (E 3))
                        have h2 := h1.re [1, 2, 3, 4, 5, 6, 7, 8, 9, 0]
                        have h3 : Owns w0 (w5.setCell ⟨b4, 0, none⟩ (.int .i64 (E 3))) (disk db (D 4) :: jblk jb db sec cnt rv false :: one b2 25 (.pointer (some ⟨jb, 0, none⟩)) :: one b6 3 (.int .i64 (fr : Int)) :: one b7 3 (.int .i64 (nx : Int)) :: trow (.slice x8 n8 c8) (rowsB cnt P 0) :: one b8 26 (.slice x8 n8 c8) :: trow (.slice x9 n9 c9) (rowsB cnt P 1) :: one b9 26 (.slice x9 n9 c9) :: one b4 27 (.int .i64 (E 3)) :: blk g4 (.cells #[.func (.func 49) #[] #[.pointer (some ⟨b2, 0, none⟩), .pointer (some ⟨b6, 0, none⟩), .pointer (some ⟨b8, 0, none⟩)], .func (.func 50) #[] #[.pointer (some ⟨b2, 0, none⟩), .pointer (some ⟨b6, 0, none⟩), .pointer (some ⟨b9, 0, none⟩)], .func (.func 51) #[] #[.pointer (some ⟨b2, 0, none⟩), .pointer (some ⟨b7, 0, none⟩)], .func (.func 52) #[] #[.pointer (some ⟨b2, 0, none⟩), .pointer (some ⟨b7, 0, none⟩)]] 75 (0, 0)) :: trow rv recs :: trow (.slice xp k cp) P :: ps) := h2
                        rw [show (one b4 27 (.int .i64 (E 3))) = one b4 27 (.int .i64 0) by rw [he]] at h3
                        exact Lib.hid h3
                      have HE2 : Hid (∀ j, j < 4 → E j = 0) := fun j hj => by
                        by_cases hjq : j < 3
                        · exact HE0.out j hjq
                        · obtain rfl : j = 3 := by omega
                          exact he
                      clear he HO
                      go_wp2_with fail
                      go_roundg (4 - 4)
                      case measure => omega
                      case rel => exact ⟨4, rfl, by omega, by go_num, HE2, HQ2, HO2⟩
                    · have hz : (E 3 == 0) = false := by simpa using he
                      have hbr : (E 3 != 0) = true := by simpa using he
                      have HAe : Hid (appendB m ⟨sec, cnt, recs, false⟩ l = (D 4, E 3, ⟨sec, cnt, recs, true⟩)) := by
                        show _ = _
                        rw [HAp.out, HSt.out 3 (by omega) HE0.out (.inl he), if_neg he]
                      have HBr := Lib.hid hbr
                      have HO2 := Lib.hid (((HO.out.re [9, 0, 1, 2, 3, 4, 5, 6, 7, 8]).store (i := 0) (.int .i64 (E 3))).store (i := 0) (.int .i64 (E 3)))
                      clear he hbr HO hJ2 hK2 HQ HQ2
                      go_wp2_with fail
                      refine leaves_cons (f := 48) (args := #[.pointer (some ⟨b4, 0, none⟩), .pointer (some ⟨b2, 0, none⟩)]) (by simp) (by simp [go_sem]) ?_
                      refine (last_c (E 3) .returning (HO2.out.re [2, 3, 0, 1])).mono ?_
                      rintro e u' w'' ⟨rfl, rfl, ho⟩
                      rw [HBr.out] at ho
                      show Leaves _ _ _ _ [] .returning _
                      refine leave_cell rfl (by exact (Owns.one (ho.re [2, 0, 1])).2.1) ⟨rv, by rw [HAe.out], ?_⟩
                      rw [HAe.out]
                      exact (ho.re [1, 2, 4, 5, 6, 7, 8, 9, 10, 12, 0, 11, 3]).pop.pop.pop.pop.pop.pop.pop.pop.pop.pop
                · obtain rfl : q = 4 := by omega
                  have he3 : E 3 = 0 := HE0.out 3 (by omega)
                  have HAe : Hid (appendB m ⟨sec, cnt, recs, false⟩ l = (D 4, 0, ⟨sec, nx, recs ++ l, false⟩)) := by
                    show _ = _
                    rw [HAp.out, HSt.out 3 (by omega) (fun j hj => HE0.out j (by omega)) (.inr rfl), he3, if_pos rfl, HNx.out]
                  obtain ⟨h7, q7, -⟩ := Owns.one (HO.out.re [4, 0, 1, 2, 3])
                  have HO5 : Hid (Owns w0 wr (jblk jb db sec cnt rv false :: one b2 25 (.pointer (some ⟨jb, 0, none⟩)) :: one b4 27 (.int .i64 0) :: trow rv recs :: disk db (D 4) :: ps)) := (HO.out.re [3, 4, 5, 6, 7, 8, 10, 12, 1, 2, 9, 11, 0]).pop.pop.pop.pop.pop.pop.pop.pop
                  obtain ⟨h2, q2, -⟩ := Owns.one HO5.out.swap
                  obtain ⟨bk, -⟩ := HO5.out.blk
                  have hj := lt_of_block bk
                  have cj2 : wr.cell? ⟨jb, 2, none⟩ = some (.int .i64 (cnt : Int)) := by rw [cell_of_heap bk]; rfl
                  have fj2 : wr.frozen? ⟨jb, 2, none⟩ = false := free_of_heap bk
                  have HO6 : Hid (Owns w0 (wr.setCell ⟨jb, 2, none⟩ (.int .i64 (nx : Int))) (jblk jb db sec nx rv false :: one b2 25 (.pointer (some ⟨jb, 0, none⟩)) :: one b4 27 (.int .i64 0) :: trow rv recs :: disk db (D 4) :: ps)) := HO5.out.store (i := 2) (.int .i64 (nx : Int))
                  obtain ⟨gx, ox, rfl⟩ : ∃ gx ox, x = some ⟨gx, ox, none⟩ := by
                    obtain ⟨g, off, s, hx, -⟩ := (HT.out _ HO5.out.pop.pop.pop.pop.pop).get (k := 0) (by have := HNz.out; omega)
                    exact ⟨g, off, hx⟩
                  clear bk he3 HO HO5 hJ2 hK2 HQ HE0 HAp HSt HD
                  go_wp2_with fail
                  obtain ⟨W9, hW9⟩ : ∃ W9, W9 = wr.setCell ⟨jb, 2, none⟩ (.int .i64 (nx : Int)) := ⟨_, rfl⟩
                  rw [← hW9] at HO6 ⊢
                  clear hW9 h2 q2 h7 q7 hj cj2 fj2
                  refine wp_region_plan [] (.step 1 (.step 2 (.step 3 (.step 4 (.step 5 (.fork 0 (.step 6 (.step 7 (.step 8 (.step 9 .done)))) 6 (.step 0 (.step 7 (.step 8 (.step 9 .done)))))))))) (by decide +kernel) (by decide +kernel) ?_
                  have HO : Hid (Owns w0 W9.drew (trow rv recs :: jblk jb db sec nx rv false :: one b2 25 (.pointer (some ⟨jb, 0, none⟩)) :: one b4 27 (.int .i64 0) :: disk db (D 4) :: ps)) := (HO6.out.re [3, 0, 1, 2]).drew
                  have Hrow := Lib.hid (Owns.row HO.out)
                  have HTx : Hid (∀ (j : Nat) (u : Value), (tcs l)[j]? = some u → W9.drew.cell? ⟨gx, ox + j, none⟩ = some u) := by
                    intro j u hu
                    have hI := HT.out _ HO.out.pop.pop.pop.pop.pop
                    rcases hI.at' with h0 | ⟨g, off, hx, hg, hc⟩
                    · exact absurd h0 HNz.out
                    · cases hx
                      simp only [tcs, List.getElem?_map, Option.map_eq_some_iff] at hu
                      obtain ⟨s, hs, rfl⟩ := hu
                      exact hc j s hs
                  have HTl : Hid ((tcs l).length = n * 1) := by
                    have hI := (HT.out _ HO.out.pop.pop.pop.pop.pop).len
                    show _ = _
                    simp [tcs, hI]
                  obtain ⟨h2, q2, -⟩ := Owns.one (HO.out.re [2, 0, 1])
                  obtain ⟨bk, -⟩ := HO.out.swap.blk
                  have hj := lt_of_block bk
                  have cj3 : World.cell? W9.drew ⟨jb, 3, none⟩ = some rv := by rw [cell_of_heap bk]; rfl
                  have fj3 : World.frozen? W9.drew ⟨jb, 3, none⟩ = false := free_of_heap bk
                  clear bk
                  iterate 5 (refine cp_do rfl rfl rfl rfl (fun _ _ => ?_); go_wp2_with fail)
                  refine cp_fork ?_ ?_
                  focus
                    refine cp_do rfl rfl rfl rfl (fun _ _ => ?_)
                    go_wp2_with fail
                    refine cp_do rfl rfl rfl rfl (fun K hK => ?_)
                    refine wp_append_at (.tmp 93) (.tmp 94) 26 (by rfl) 9 _ 1 16 Tryz.underlying26 info_jstr (by rfl) (by omega) _ recs.length _ (by rfl) Hrow.out gx ox c n (tcs l) (by rfl) HTl.out HTx.out (by intro u hu; simp only [tcs, List.mem_map] at hu; obtain ⟨s, -, rfl⟩ := hu; rfl) (by have := HRl.out; have := HN.out; omega) (by have := HRl.out; have := HN.out; omega) ?_
                    intro v' w10 hrow hgrow hblk
                    replace HO := Lib.hid (Owns.grew (l' := recs ++ l) HO.out (by rw [List.length_append, show l.length = n by have := HTl.out; simpa [tcs] using this, show tcs (recs ++ l) = tcs recs ++ tcs l by simp [tcs]]; exact hrow) hgrow hblk)
                    clear hrow hgrow hblk Hrow h2 q2 hj cj3 fj3 HTx
                    obtain ⟨xr, nr, cr, rfl, -⟩ := Owns.texts HO.out
                    obtain ⟨h2, q2, -⟩ := Owns.one (HO.out.re [2, 0, 1])
                    obtain ⟨bk, -⟩ := HO.out.swap.blk
                    have hj := lt_of_block bk
                    have cj3 : World.cell? w10 ⟨jb, 3, none⟩ = some rv := by rw [cell_of_heap bk]; rfl
                    have fj3 : World.frozen? w10 ⟨jb, 3, none⟩ = false := free_of_heap bk
                    clear bk
                    have HO8 := Lib.hid (HO.out.swap.store (i := 3) (.slice xr nr cr))
                    skip
                    go_wp2_with fail
                    iterate 3 (refine cp_do rfl rfl rfl rfl (fun _ _ => ?_); go_wp2_with fail)
                    refine cp_nil ?_
                    obtain ⟨W10, hW10⟩ : ∃ W10, W10 = w10.setCell ⟨jb, 3, none⟩ (.slice xr nr cr) := ⟨_, rfl⟩
                    rw [← hW10] at HO8 ⊢
                    have HO9 : Hid (Owns w0 W10 (one b4 27 (.int .i64 0) :: jblk jb db sec nx (.slice xr nr cr) false :: trow (.slice xr nr cr) (recs ++ l) :: one b2 25 (.pointer (some ⟨jb, 0, none⟩)) :: disk db (D 4) :: ps)) := HO8.out.re [3, 0, 1, 2]
                    clear hW10 h2 q2 hj cj3 fj3 HO HO8
                    obtain ⟨h4, q4, f4⟩ := Owns.one HO9.out
                    have HO10 := Lib.hid (HO9.out.store (i := 0) (.int .i64 0))
                    clear HO9
                    go_wp2_with fail
                    refine leaves_cons (f := 48) (args := #[.pointer (some ⟨b4, 0, none⟩), .pointer (some ⟨b2, 0, none⟩)]) (by simp) (by simp [go_sem]) ?_
                    refine (last_c 0 .returning (HO10.out.re [1, 3, 0, 2])).mono ?_
                    rintro e u' w'' ⟨rfl, rfl, ho⟩
                    rw [show ((0 : Int) != 0) = false from rfl] at ho
                    show Leaves _ _ _ _ [] .returning _
                    refine leave_cell rfl (by exact (Owns.one (ho.re [2, 0, 1])).2.1) ⟨.slice xr nr cr, by rw [HAe.out], ?_⟩
                    rw [HAe.out]
                    exact (ho.re [1, 2, 0, 3]).pop.pop
                  focus
                    refine cp_do rfl rfl rfl rfl (fun K hK => ?_)
                    refine wp_append_at (.tmp 93) (.tmp 94) 26 (by rfl) 9 _ 1 16 Tryz.underlying26 info_jstr (by rfl) (by omega) _ recs.length _ (by rfl) Hrow.out gx ox c n (tcs l) (by rfl) HTl.out HTx.out (by intro u hu; simp only [tcs, List.mem_map] at hu; obtain ⟨s, -, rfl⟩ := hu; rfl) (by have := HRl.out; have := HN.out; omega) (by have := HRl.out; have := HN.out; omega) ?_
                    intro v' w10 hrow hgrow hblk
                    replace HO := Lib.hid (Owns.grew (l' := recs ++ l) HO.out (by rw [List.length_append, show l.length = n by have := HTl.out; simpa [tcs] using this, show tcs (recs ++ l) = tcs recs ++ tcs l by simp [tcs]]; exact hrow) hgrow hblk)
                    clear hrow hgrow hblk Hrow h2 q2 hj cj3 fj3 HTx
                    obtain ⟨xr, nr, cr, rfl, -⟩ := Owns.texts HO.out
                    obtain ⟨h2, q2, -⟩ := Owns.one (HO.out.re [2, 0, 1])
                    obtain ⟨bk, -⟩ := HO.out.swap.blk
                    have hj := lt_of_block bk
                    have cj3 : World.cell? w10 ⟨jb, 3, none⟩ = some rv := by rw [cell_of_heap bk]; rfl
                    have fj3 : World.frozen? w10 ⟨jb, 3, none⟩ = false := free_of_heap bk
                    clear bk
                    have HO8 := Lib.hid (HO.out.swap.store (i := 3) (.slice xr nr cr))
                    skip
                    go_wp2_with fail
                    iterate 4 (refine cp_do rfl rfl rfl rfl (fun _ _ => ?_); go_wp2_with fail)
                    refine cp_nil ?_
                    obtain ⟨W10, hW10⟩ : ∃ W10, W10 = w10.setCell ⟨jb, 3, none⟩ (.slice xr nr cr) := ⟨_, rfl⟩
                    rw [← hW10] at HO8 ⊢
                    have HO9 : Hid (Owns w0 W10 (one b4 27 (.int .i64 0) :: jblk jb db sec nx (.slice xr nr cr) false :: trow (.slice xr nr cr) (recs ++ l) :: one b2 25 (.pointer (some ⟨jb, 0, none⟩)) :: disk db (D 4) :: ps)) := HO8.out.re [3, 0, 1, 2]
                    clear hW10 h2 q2 hj cj3 fj3 HO HO8
                    obtain ⟨h4, q4, f4⟩ := Owns.one HO9.out
                    have HO10 := Lib.hid (HO9.out.store (i := 0) (.int .i64 0))
                    clear HO9
                    go_wp2_with fail
                    refine leaves_cons (f := 48) (args := #[.pointer (some ⟨b4, 0, none⟩), .pointer (some ⟨b2, 0, none⟩)]) (by simp) (by simp [go_sem]) ?_
                    refine (last_c 0 .returning (HO10.out.re [1, 3, 0, 2])).mono ?_
                    rintro e u' w'' ⟨rfl, rfl, ho⟩
                    rw [show ((0 : Int) != 0) = false from rfl] at ho
                    show Leaves _ _ _ _ [] .returning _
                    refine leave_cell rfl (by exact (Owns.one (ho.re [2, 0, 1])).2.1) ⟨.slice xr nr cr, by rw [HAe.out], ?_⟩
                    rw [HAe.out]
                    exact (ho.re [1, 2, 0, 3]).pop.pop
end Go.Proofs.YtjcjpekndeoonaaGreatDoor
