/-
  The ledger: formed, Clone.
-/
import Derived.Test.YtlkihpgpcgeogaaDoorLgPiece
import Derived.Test.YtlkihpgpcgeogaaDoorFzAdd
import Derived.Lib.SliceRun
namespace Go.Proofs.YtlkihpgpcgeogaaDoor
open Go.RowKit Go.Cz Go.Cz.Td Go.ChangeMaps Go.Cz.Lx
set_option linter.unusedSimpArgs false
set_option linter.unusedVariables false
attribute [local go_sem] bs_size bs_extract bs_append bs_toList
attribute [local irreducible] cList cPlan
abbrev kPost (p : Nat) : Value := .func (.func 35) #[] #[.pointer (some ⟨p, 0, none⟩)]
theorem same_c (a b : List UInt8) (x : Int) (p : Nat) (w : World) (hp : w.cell? ⟨p, 0, none⟩ = some (.string (bs b))) (hl : p < w.heap.size) :
    Calls Tryd.prog 35 #[.agg #[.string (bs a), .int .i64 x], .pointer (some ⟨p, 0, none⟩)] w fun e w' => e = .returned (.bool (a == b)) ∧ Below w.heap.size w w' := by
  obtain ⟨q, hq⟩ : ∃ q, q = (a == b) := ⟨_, rfl⟩
  rw [← hq]
  have hq' : (a == b) = q := hq.symm
  clear hq
  go_enter Tryd.func35, Tryd.ntmps35
  go_wp2_with fail
  go_ret
  exact ⟨rfl, by repeat (first | exact Below.refl _ _ | (refine Below.drew ?_) | (refine Below.alloc ?_ (by (try simp only [World.size_alloc, World.size_setCell, World.size_drew] at *); omega) _) | (refine Below.setCell ?_ (by (try simp only [World.size_alloc, World.size_setCell, World.size_drew] at *); omega) _))⟩
theorem index0_c (g c : Nat) (k : Value) (w : World) : Calls Tryd.prog 40 #[.slice (some ⟨g, 0, none⟩) 0 c, k] w fun e w' => e = .returned (.int .i64 (-1)) ∧ Below w.heap.size w w' := by
  go_enter Tryd.func40, Tryd.ntmps40
  go_wp2_with fail
  refine wp_loop_rounds 1 ?_
  rw [rounds_succ]
  go_wp2_with fail
  go_ret
  exact ⟨rfl, by repeat (first | exact Below.refl _ _ | (refine Below.drew ?_) | (refine Below.alloc ?_ (by (try simp only [World.size_alloc, World.size_setCell, World.size_drew] at *); omega) _) | (refine Below.setCell ?_ (by (try simp only [World.size_alloc, World.size_setCell, World.size_drew] at *); omega) _))⟩
set_option maxRecDepth 100000 in
set_option maxHeartbeats 1000000 in
theorem index1_c (g c p : Nat) (a b : List UInt8) (x : Int) (w : World) (hp : w.cell? ⟨p, 0, none⟩ = some (.string (bs b))) (hl : p < w.heap.size) (h0 : w.cell? ⟨g, 0, none⟩ = some (.string (bs a))) (h1 : w.cell? ⟨g, 1, none⟩ = some (.int .i64 x)) (hg : g < w.heap.size) (hab : (a == b) = false) :
    Calls Tryd.prog 40 #[.slice (some ⟨g, 0, none⟩) 1 c, kPost p] w fun e w' => e = .returned (.int .i64 (-1)) ∧ Below w.heap.size w w' := by
  have HS := Lib.hid (same_c a b x p w hp hl)
  have HA := Lib.hid hab
  clear hp hl hab
  go_enter Tryd.func40, Tryd.ntmps40
  go_wp2_with fail
  refine wp_loop_rounds 2 ?_
  rw [rounds_succ]
  go_wp2_with fail
  go_at_call 35
  refine HS.out.mono ?_
  rintro e W1 ⟨rfl, hb⟩
  rw [HA.out]
  have HB := Lib.hid hb
  clear hb h0 h1 hg HS
  go_wp2_with fail
  rw [rounds_succ]
  go_wp2_with fail
  go_ret
  exact ⟨rfl, HB.out⟩
/-- No posting ahead of one has its account. -/
theorem none_c (n g c p : Nat) (a b : List UInt8) (x : Int) (w : World) (hn : n ≤ 1) (hp : w.cell? ⟨p, 0, none⟩ = some (.string (bs b))) (hl : p < w.heap.size) (h0 : w.cell? ⟨g, 0, none⟩ = some (.string (bs a))) (h1 : w.cell? ⟨g, 1, none⟩ = some (.int .i64 x)) (hg : g < w.heap.size) (hab : n = 1 → (a == b) = false) :
    Calls Tryd.prog 34 #[.slice (some ⟨g, 0, none⟩) n c, kPost p] w fun e w' => e = .returned (.bool false) ∧ Below w.heap.size w w' := by
  have HI : Hid (Calls Tryd.prog 40 #[.slice (some ⟨g, 0, none⟩) n c, kPost p] w fun e w' => e = .returned (.int .i64 (-1)) ∧ Below w.heap.size w w') := by
    rcases n with _ | _ | n
    · exact Lib.hid (index0_c g c _ w)
    · exact Lib.hid (index1_c g c p a b x w hp hl h0 h1 hg (hab rfl))
    · omega
  clear hp hl h0 h1 hg hab
  go_enter Tryd.func34, Tryd.ntmps34
  go_wp2_with fail
  go_at_call 40
  refine HI.out.mono ?_
  rintro e W1 ⟨rfl, hb⟩
  have HB := Lib.hid hb
  clear hb HI
  go_wp2_with fail
  go_ret
  exact ⟨rfl, HB.out⟩
theorem info_po : (Tryd.prog.info? 38).map (fun i => (i.zero, i.size, i.bytes)) = some (some (.agg #[.string ⟨#[]⟩, .int .i64 0]), 2, 24) := by kernel_rfl
abbrev pobj (o : Bool) (u : Int) : Obj := .cells #[.string (bs (nmB o)), .int .i64 (amt u o), .string (bs (nmB !o)), .int .i64 (amt u !o)] 38 (0, 0)
set_option maxRecDepth 100000 in
set_option maxHeartbeats 1000000 in
theorem clone_c {w0 : World} {ps : List Piece} {g : Nat} {o : Bool} {u : Int} (w : World) (h : Owns w0 w (blk g (pobj o u) :: ps)) :
    Calls Tryd.prog 25 #[.slice (some ⟨g, 0, none⟩) 2 2] w fun e w' => ∃ pv, e = .returned pv ∧ Owns w0 w' (rowP 38 2 pv 2 (pcs o u) :: blk g (pobj o u) :: ps) := by
  obtain ⟨W1, hW1⟩ : ∃ W, W = w.alloc (.cells #[] 38) := ⟨_, rfl⟩
  obtain ⟨g1, hg1⟩ : ∃ x, x = w.heap.size := ⟨_, rfl⟩
  have HO : Hid (Owns w0 W1 (rowP 38 2 (.slice (some ⟨g1, 0, none⟩) 0 0) 0 [] :: blk g (pobj o u) :: ps)) := by
    have h1 := h.rowLit (e := 38) (size := 2) (n := 0) [] (by unfold maxLen; omega) (by simp)
    rw [hW1, hg1]
    exact Lib.hid h1
  clear h
  have he : (binOp .eql 39 (.slice (some ⟨g, 0, none⟩) 2 2) (.slice none 0 0)).run Tryd.prog w = .ok (.bool false) w := Lib.run_eql_slice_nil w _ 38 _ 2 2 0 0 (by kernel_rfl)
  go_enter Tryd.func25, Tryd.ntmps25
  go_wp2_with (refine wpList_plain rfl fun K hK => wp_append (.tmp 5) (.tmp 6) 39 (by rfl) 38 _ 2 24 Tryd.underlying39 info_po (by rfl) (by omega) (.slice (some ⟨w.heap.size, 0, none⟩) 0 0) 0 [] (by rfl) (by rw [← hW1, ← hg1]; exact HO.out.row) g 2 2 (pcs o u) (by rfl) (by rfl) 38 (by rw [← hW1]; exact HO.out.swap.blk.1) (by intro x hx; simp only [pcs, List.mem_cons, List.not_mem_nil, or_false] at hx; rcases hx with rfl | rfl | rfl | rfl <;> rfl) (by omega) (by omega) ?_; intro v2 w9 hrow hgrow hblk; refine hK _ _ ?_; rw [← hW1, ← hg1] at hgrow; rw [← hg1, ← hW1] at hblk)
  have HO2 := Lib.hid (Owns.rowGrew HO.out hrow hgrow hblk)
  clear hrow hgrow hblk he hW1 hg1 HO
  go_wp2_with fail
  go_ret
  exact ⟨_, rfl, HO2.out⟩
theorem amt_facts {u : Int} (h0 : u ≠ 0) (h1 : -1000000000000 ≤ u) (h2 : u ≤ 1000000000000) (z : Bool) : (amt u z == 0) = false ∧ decide (amt u z < -1000000000000) = false ∧ decide (amt u z > 1000000000000) = false := by
  unfold amt
  cases z <;> simp <;> omega
set_option maxRecDepth 100000 in
set_option maxHeartbeats 2000000 in
theorem formed_c {w0 : World} {ps : List Piece} {g : Nat} {o : Bool} {u : Int} (id : List UInt8) (t : Int) (w : World) (h : Owns w0 w (blk g (pobj o u) :: ps)) (hi : identB id = true) (hq : 34 ∉ id) (hl : id.length ≤ 1000)
    (ht0 : 0 ≤ t) (ht1 : t ≤ 144001439) (h0 : u ≠ 0) (h1 : -1000000000000 ≤ u) (h2 : u ≤ 1000000000000) :
    Calls Tryd.prog 24 #[.agg #[.string (bs id), .int .i64 t, .slice (some ⟨g, 0, none⟩) 2 2]] w fun e w' => e = .returned (.bool true) ∧ Below w.heap.size w w' := by
  obtain ⟨a1, a2, a3⟩ := amt_facts h0 h1 h2 o
  obtain ⟨d1, d2, d3⟩ := amt_facts h0 h1 h2 !o
  obtain ⟨u1, hu1⟩ : ∃ x, x = amt u o := ⟨_, rfl⟩
  obtain ⟨u2, hu2⟩ : ∃ x, x = amt u !o := ⟨_, rfl⟩
  obtain ⟨n1, hn1⟩ : ∃ x, x = nmB o := ⟨_, rfl⟩
  obtain ⟨n2, hn2⟩ : ∃ x, x = nmB !o := ⟨_, rfl⟩
  have hne : (n1 == n2) = false := by rw [hn1, hn2]; simpa using nm_ne o
  rw [← hu1] at a1 a2 a3
  rw [← hu2] at d1 d2 d3
  have HG : Hid (w.heap[g]? = some (.cells #[.string (bs n1), .int .i64 u1, .string (bs n2), .int .i64 u2] 38 (0, 0))) := by
    rw [hn1, hn2, hu1, hu2]
    exact Lib.hid h.blk.1
  clear h hu1 hu2 hn1 hn2 h0 h1 h2
  have HI := Lib.hid fun w => ident_c id (fun h => absurd h hq) w (by omega)
  have HN := Lib.hid hi
  have HE := Lib.hid hne
  clear hi hq hl hne
  have t0 : decide (t < 0) = false := by simpa using ht0
  have t1 : decide (t > 144001439) = false := by simpa using ht1
  clear ht0 ht1
  obtain ⟨W1, hW1⟩ : ∃ W, W = w.alloc (.cells #[.string (bs id), .int .i64 t, .slice (some ⟨g, 0, none⟩) 2 2] 41) := ⟨_, rfl⟩
  obtain ⟨b1, hb1⟩ : ∃ x, x = w.heap.size := ⟨_, rfl⟩
  have HB : Hid (Below w.heap.size w W1) := by
    rw [hW1]
    exact Lib.hid ((Below.refl _ _).alloc (Nat.le_refl _) _)
  have HK : Hid (W1.heap[b1]? = some (.cells #[.string (bs id), .int .i64 t, .slice (some ⟨g, 0, none⟩) 2 2] 41 (0, 0))) := by
    rw [hW1, hb1]
    exact Lib.hid (new_heap w _ _ rfl)
  have hgw := lt_of_block HG.out
  replace HG := Lib.hid ((HB.out.block g hgw).trans HG.out)
  clear hgw
  go_enter Tryd.func24, Tryd.ntmps24
  go_upto_region 1 with fail
  rw [← hW1, ← hb1]
  clear hW1 hb1
  have hbk := lt_of_block HK.out
  have ck0 := cell_of_heap HK.out (i := 0)
  have ck1 := cell_of_heap HK.out (i := 1)
  have ck2 := cell_of_heap HK.out (i := 2)
  have hgk := lt_of_block HG.out
  have cg0 := cell_of_heap HG.out (i := 0)
  have cg1 := cell_of_heap HG.out (i := 1)
  have cg2 := cell_of_heap HG.out (i := 2)
  have cg3 := cell_of_heap HG.out (i := 3)
  simp only [List.getElem?_toArray, List.getElem?_cons_succ, List.getElem?_cons_zero] at ck0 ck1 ck2 cg0 cg1 cg2 cg3
  go_wp2_with fail
  clear hbk ck0 ck1 ck2 hgk cg0 cg1 cg2 cg3
  go_at_call 23
  refine (HI.out W1).mono ?_
  rintro e W2 ⟨rfl, hb⟩
  rw [HN.out]
  replace HG := Lib.hid ((hb.block g (lt_of_block HG.out)).trans HG.out)
  replace HK := Lib.hid ((hb.block b1 (lt_of_block HK.out)).trans HK.out)
  replace HB := Lib.hid (HB.out.trans (hb.mono HB.out.size))
  clear hb
  have hbk := lt_of_block HK.out
  have ck0 := cell_of_heap HK.out (i := 0)
  have ck1 := cell_of_heap HK.out (i := 1)
  have ck2 := cell_of_heap HK.out (i := 2)
  have hgk := lt_of_block HG.out
  have cg0 := cell_of_heap HG.out (i := 0)
  have cg1 := cell_of_heap HG.out (i := 1)
  have cg2 := cell_of_heap HG.out (i := 2)
  have cg3 := cell_of_heap HG.out (i := 3)
  simp only [List.getElem?_toArray, List.getElem?_cons_succ, List.getElem?_cons_zero] at ck0 ck1 ck2 cg0 cg1 cg2 cg3
  go_wp2_with fail
  refine wp_loop_rounds 3 ?_
  rw [rounds_succ]
  go_wp2_with fail
  clear hbk ck0 ck1 ck2 hgk cg0 cg1 cg2 cg3
  go_at_call 34
  obtain ⟨W3, hW3⟩ : ∃ W, W = (W2).alloc (.cells #[.string (bs n1), .int .i64 u1] 38) := ⟨_, rfl⟩
  obtain ⟨p1, hp1⟩ : ∃ x, x = (W2).heap.size := ⟨_, rfl⟩
  have hb : Below (W2).heap.size W2 W3 := by rw [hW3]; exact (Below.refl _ _).alloc (Nat.le_refl _) _
  have HP : (W3).heap[p1]? = some (.cells #[.string (bs n1), .int .i64 u1] 38 (0, 0)) := by rw [hW3, hp1]; exact new_heap _ _ _ rfl
  rw [← hW3, ← hp1]
  clear hW3 hp1
  replace HG := Lib.hid ((hb.block g (lt_of_block HG.out)).trans HG.out)
  replace HK := Lib.hid ((hb.block b1 (lt_of_block HK.out)).trans HK.out)
  replace HB := Lib.hid (HB.out.trans (hb.mono HB.out.size))
  clear hb
  refine (none_c 0 g 2 p1 n1 n1 u1 W3 (by omega) (by rw [cell_of_heap HP]; rfl) (lt_of_block HP) (by rw [cell_of_heap HG.out]; rfl) (by rw [cell_of_heap HG.out]; rfl) (lt_of_block HG.out) (by intro h; cases h)).mono ?_
  rintro e W4 ⟨rfl, hb⟩
  replace HG := Lib.hid ((hb.block g (lt_of_block HG.out)).trans HG.out)
  replace HK := Lib.hid ((hb.block b1 (lt_of_block HK.out)).trans HK.out)
  replace HB := Lib.hid (HB.out.trans (hb.mono HB.out.size))
  clear hb
  clear HP
  have hbk := lt_of_block HK.out
  have ck0 := cell_of_heap HK.out (i := 0)
  have ck1 := cell_of_heap HK.out (i := 1)
  have ck2 := cell_of_heap HK.out (i := 2)
  have hgk := lt_of_block HG.out
  have cg0 := cell_of_heap HG.out (i := 0)
  have cg1 := cell_of_heap HG.out (i := 1)
  have cg2 := cell_of_heap HG.out (i := 2)
  have cg3 := cell_of_heap HG.out (i := 3)
  simp only [List.getElem?_toArray, List.getElem?_cons_succ, List.getElem?_cons_zero] at ck0 ck1 ck2 cg0 cg1 cg2 cg3
  go_wp2_with fail
  rw [rounds_succ]
  go_wp2_with fail
  clear hbk ck0 ck1 ck2 hgk cg0 cg1 cg2 cg3
  go_at_call 34
  obtain ⟨W5, hW3⟩ : ∃ W, W = (W4).alloc (.cells #[.string (bs n2), .int .i64 u2] 38) := ⟨_, rfl⟩
  obtain ⟨p2, hp1⟩ : ∃ x, x = (W4).heap.size := ⟨_, rfl⟩
  have hb : Below (W4).heap.size W4 W5 := by rw [hW3]; exact (Below.refl _ _).alloc (Nat.le_refl _) _
  have HP : (W5).heap[p2]? = some (.cells #[.string (bs n2), .int .i64 u2] 38 (0, 0)) := by rw [hW3, hp1]; exact new_heap _ _ _ rfl
  rw [← hW3, ← hp1]
  clear hW3 hp1
  replace HG := Lib.hid ((hb.block g (lt_of_block HG.out)).trans HG.out)
  replace HK := Lib.hid ((hb.block b1 (lt_of_block HK.out)).trans HK.out)
  replace HB := Lib.hid (HB.out.trans (hb.mono HB.out.size))
  clear hb
  refine (none_c 1 g 2 p2 n1 n2 u1 W5 (by omega) (by rw [cell_of_heap HP]; rfl) (lt_of_block HP) (by rw [cell_of_heap HG.out]; rfl) (by rw [cell_of_heap HG.out]; rfl) (lt_of_block HG.out) (fun _ => HE.out)).mono ?_
  rintro e W6 ⟨rfl, hb⟩
  replace HG := Lib.hid ((hb.block g (lt_of_block HG.out)).trans HG.out)
  replace HK := Lib.hid ((hb.block b1 (lt_of_block HK.out)).trans HK.out)
  replace HB := Lib.hid (HB.out.trans (hb.mono HB.out.size))
  clear hb
  clear HP
  have hbk := lt_of_block HK.out
  have ck0 := cell_of_heap HK.out (i := 0)
  have ck1 := cell_of_heap HK.out (i := 1)
  have ck2 := cell_of_heap HK.out (i := 2)
  have hgk := lt_of_block HG.out
  have cg0 := cell_of_heap HG.out (i := 0)
  have cg1 := cell_of_heap HG.out (i := 1)
  have cg2 := cell_of_heap HG.out (i := 2)
  have cg3 := cell_of_heap HG.out (i := 3)
  simp only [List.getElem?_toArray, List.getElem?_cons_succ, List.getElem?_cons_zero] at ck0 ck1 ck2 cg0 cg1 cg2 cg3
  go_wp2_with fail
  rw [rounds_succ]
  go_wp2_with fail
  go_ret
  exact ⟨rfl, HB.out⟩
end Go.Proofs.YtlkihpgpcgeogaaDoor
