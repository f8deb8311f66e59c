/-
  Valid names and proper entries.
-/
import Derived.Test.YtckocgkndbdhcaaGreatDoorNwWord
import Derived.Test.YtckocgkndbdhcaaGreatDoorNwIdent
namespace Go.Cz.Nw
open Go.Cz.Lx
structure Nm where
  sc : Int
  ws : List Bytes
def validB (n : Nm) : Bool := n.ws.all (wordB n.sc) && decide (0 < n.ws.length ∧ n.ws.length ≤ 6)
/-- Whether an entry is proper. -/
def propB (id : Bytes) (ns : List Nm) : Bool := identB id && (decide (0 < ns.length ∧ ns.length ≤ 8) && ns.all validB)
/-- A row of texts that lies in a world. -/
def IsWords (w : World) (v : Value) (ws : List Bytes) : Prop := ∃ y c, v = .slice y ws.length c ∧ ∀ (j : Nat) (x : Bytes), ws[j]? = some x → ∃ g o, y = some ⟨g, o, none⟩ ∧ g < w.heap.size ∧ w.cell? ⟨g, o + j, none⟩ = some (.string (bs x))
/-- A row of names that lies in a world. -/
def IsNames (w : World) (v : Value) (ns : List Nm) : Prop := ∃ y c, v = .slice y ns.length c ∧ ∀ (j : Nat) (n : Nm), ns[j]? = some n → ∃ g o wv, y = some ⟨g, o, none⟩ ∧ g < w.heap.size ∧ w.cell? ⟨g, o + j * 2, none⟩ = some (.int .i64 n.sc) ∧ w.cell? ⟨g, o + j * 2 + 1, none⟩ = some wv ∧ IsWords w wv n.ws
/-- The sizes are moderate. -/
def NmOk (n : Nm) : Prop := n.ws.length ≤ 1000000 ∧ ∀ x ∈ n.ws, x.length ≤ 1000
end Go.Cz.Nw
namespace Go.Proofs.YtckocgkndbdhcaaGreatDoor
open Go.RowKit Go.Cz Go.Cz.Nw Go.Cz.Lx
set_option linter.unusedSimpArgs false
set_option linter.unusedVariables false
attribute [local go_sem] bs_size bs_extract bs_append bs_toList
attribute [local irreducible] cList
theorem words_below {w w' : World} {v : Value} {ws : List Bytes} (h : IsWords w v ws) (hb : Below w.heap.size w w') : IsWords w' v ws := by
  obtain ⟨y, c, rfl, h⟩ := h
  refine ⟨y, c, rfl, fun j x hx => ?_⟩
  obtain ⟨g, o, h1, h2, h3⟩ := h j x hx
  exact ⟨g, o, h1, Nat.lt_of_lt_of_le h2 hb.size, old_cell hb h3⟩
theorem names_below {w w' : World} {v : Value} {ns : List Nm} (h : IsNames w v ns) (hb : Below w.heap.size w w') : IsNames w' v ns := by
  obtain ⟨y, c, rfl, h⟩ := h
  refine ⟨y, c, rfl, fun j x hx => ?_⟩
  obtain ⟨g, o, wv, h1, h2, h3, h4, h5⟩ := h j x hx
  exact ⟨g, o, wv, h1, Nat.lt_of_lt_of_le h2 hb.size, old_cell hb h3, old_cell hb h4, words_below h5 hb⟩
theorem take_all {ws : List Bytes} {k : Int} {j : Nat} {x : Bytes} (hx : ws[j]? = some x) (h : (ws.take j).all (wordB k) = true) (hw : wordB k x = true) : (ws.take (j + 1)).all (wordB k) = true := by
  obtain ⟨hj, rfl⟩ := List.getElem?_eq_some_iff.1 hx
  rw [List.take_succ_eq_append_getElem hj, List.all_append, h]
  simp [hw]
set_option maxRecDepth 100000 in
set_option maxHeartbeats 4000000 in
theorem Valid_c (n : Nm) (wv : Value) (w : World) (hstd : Std w) (hw : IsWords w wv n.ws) (hok : NmOk n) : Calls Tryz.prog 49 #[.agg #[.int .i64 n.sc, wv]] w fun e w' => e = .returned (.bool (validB n)) ∧ Below w.heap.size w w' := by
  obtain ⟨y, c, rfl, hcell⟩ := hw
  obtain ⟨sc, ws⟩ := n
  dsimp only at hcell ⊢
  obtain ⟨hn, hlen⟩ := hok
  dsimp only at hn hlen
  obtain ⟨m, hm⟩ : ∃ m, m = ws.length := ⟨_, rfl⟩
  obtain ⟨W1, hW1⟩ : ∃ W, W = w.alloc (.cells #[.int .i64 sc, .slice y m c] 41) := ⟨_, rfl⟩
  obtain ⟨b1, hb1⟩ : ∃ x, x = w.heap.size := ⟨_, rfl⟩
  have hB1 : Below w.heap.size w W1 := by rw [hW1]; exact (Below.refl _ _).alloc (Nat.le_refl _) _
  have hK1 : Bk W1 b1 #[.int .i64 sc, .slice y m c] 41 := by rw [hW1, hb1]; exact Bk.new _ _ _
  have HStd := Lib.hid hstd
  have HC := Lib.hid hcell
  have HM := Lib.hid hm
  have HB1 := Lib.hid hB1
  have HK1 := Lib.hid hK1
  have HLn := Lib.hid hlen
  rw [← hm] at hn ⊢
  have hwb : w.heap.size ≤ b1 := by omega
  clear hstd hcell hlen hm hB1 hK1
  go_enter Tryz.func49, Tryz.ntmps49
  go_upto_region 1 with fail
  rw [← hW1, ← hb1]
  clear hW1 hb1
  have c0 : W1.cell? ⟨b1, 0, none⟩ = some (.int .i64 sc) := by rw [HK1.out.cell]; rfl
  have c1 : W1.cell? ⟨b1, 1, none⟩ = some (.slice y m c) := by rw [HK1.out.cell]; rfl
  have l1 := HK1.out.lt
  go_wp2_with fail
  clear c0 c1 l1
  go_loopw [10] (fun i wr => ∃ j : Nat, j ≤ m ∧ i = .int .i64 (j : Int) ∧ Hid ((ws.take j).all (wordB sc) = true) ∧ Hid (Below W1.heap.size W1 wr)) (fun i _ => m - (intOf i).toNat)
  case atStart => exact ⟨0, Nat.zero_le _, rfl, by simp [Hid], Lib.hid (Below.refl _ _)⟩
  obtain ⟨j, hj, rfl, hA, hB⟩ := hrel
  have hbk := HK1.out.below hB.out
  have c0 : wr.cell? ⟨b1, 0, none⟩ = some (.int .i64 sc) := by rw [hbk.cell]; rfl
  have c1 : wr.cell? ⟨b1, 1, none⟩ = some (.slice y m c) := by rw [hbk.cell]; rfl
  have l1 := hbk.lt
  have hB2 : Below w.heap.size w wr := HB1.out.trans (hB.out.mono HB1.out.size)
  have HB2 := Lib.hid hB2
  clear hbk hB2
  by_cases hjm : j < m
  · have hlt : (j : Int) < (m : Int) := by omega
    have hx : ws[j]? = some (ws[j]'(by rw [← HM.out]; exact hjm)) := List.getElem?_eq_getElem _
    obtain ⟨x, hxx⟩ : ∃ x, ws[j]? = some x := ⟨_, hx⟩
    clear hx
    obtain ⟨g, o, rfl, hg, d0⟩ := HC.out j x hxx
    have d1 := old_cell HB2.out d0
    have hg1 : g < wr.heap.size := Nat.lt_of_lt_of_le hg HB2.out.size
    have hxl := HLn.out x (List.mem_of_getElem? hxx)
    have HX := Lib.hid hxx
    clear d0 hg hxx
    go_wp2_with fail
    go_at_call 68
    refine (Letters_c sc x wr (HStd.out.below HB2.out) hxl).mono ?_
    rintro e W3 ⟨⟨v, rfl⟩, hb⟩
    have HB3 : Hid (Below W1.heap.size W1 W3) := hB.out.trans (hb.mono hB.out.size)
    have HB4 : Hid (Below w.heap.size w W3) := HB2.out.trans (hb.mono HB2.out.size)
    clear hb c0 c1 l1 d1 hg1 hxl
    rcases hw : wordB sc x with _ | _
    · have HE : Hid (validB ⟨sc, ws⟩ = false) := by
        have h : ws.all (wordB sc) = false := List.all_eq_false.2 ⟨x, List.mem_of_getElem? HX.out, by rw [hw]; simp⟩
        show _ = _
        unfold validB
        dsimp only
        rw [h]
        rfl
      rw [show wordE sc x = 1 by unfold wordE; rw [hw]; rfl]
      clear hw
      go_wp2_with fail
      go_ret
      rw [HE.out]
      exact ⟨rfl, HB4.out⟩
    · have HA2 : Hid ((ws.take (j + 1)).all (wordB sc) = true) := take_all HX.out hA.out hw
      rw [show wordE sc x = 0 by unfold wordE; rw [hw]; rfl]
      clear hw
      go_wp2_with fail
      go_roundw
      case rel => exact ⟨j + 1, by omega, by go_num, HA2, HB3⟩
      case measure => simp [intOf]; omega
  · obtain rfl : j = m := by omega
    have HE : Hid (validB ⟨sc, ws⟩ = decide (0 < j ∧ j ≤ 6)) := by
      have h : ws.all (wordB sc) = true := by
        have := hA.out
        rwa [HM.out, List.take_length] at this
      show _ = _
      unfold validB
      dsimp only
      rw [h, ← HM.out, Bool.true_and]
    clear hjm hj hA
    rcases Nat.eq_zero_or_pos j with rfl | hpos
    · have HE2 : Hid (validB ⟨sc, ws⟩ = false) := by show _ = _; rw [HE.out]; simp
      go_wp2_with fail
      go_ret
      rw [HE2.out]
      exact ⟨rfl, HB2.out⟩
    · have hp : ((j : Nat) : Int) > 0 := by omega
      by_cases h6 : j ≤ 6
      · have HE2 : Hid (validB ⟨sc, ws⟩ = true) := by show _ = _; rw [HE.out]; simp; omega
        have h6' : ((j : Nat) : Int) ≤ 6 := by omega
        go_wp2_with fail
        go_ret
        rw [HE2.out]
        exact ⟨rfl, HB2.out⟩
      · have HE2 : Hid (validB ⟨sc, ws⟩ = false) := by show _ = _; rw [HE.out]; simp; omega
        have h6' : ¬ ((j : Nat) : Int) ≤ 6 := by omega
        go_wp2_with fail
        go_ret
        rw [HE2.out]
        exact ⟨rfl, HB2.out⟩
theorem wrong_c (n : Nm) (wv : Value) (w : World) (hstd : Std w) (hw : IsWords w wv n.ws) (hok : NmOk n) : Calls Tryz.prog 48 #[.agg #[.int .i64 n.sc, wv]] w fun e w' => e = .returned (.bool (!validB n)) ∧ Below w.heap.size w w' := by
  obtain ⟨y, c, rfl, hcell⟩ := hw
  obtain ⟨W1, hW1⟩ : ∃ W, W = w.alloc (.cells #[.int .i64 n.sc, .slice y n.ws.length c] 41) := ⟨_, rfl⟩
  obtain ⟨b1, hb1⟩ : ∃ x, x = w.heap.size := ⟨_, rfl⟩
  have hB1 : Below w.heap.size w W1 := by rw [hW1]; exact (Below.refl _ _).alloc (Nat.le_refl _) _
  have hK1 : Bk W1 b1 #[.int .i64 n.sc, .slice y n.ws.length c] 41 := by rw [hW1, hb1]; exact Bk.new _ _ _
  have HB1 := Lib.hid hB1
  have HV := Lib.hid (Valid_c n (.slice y n.ws.length c) W1 (hstd.below hB1) (words_below ⟨y, c, rfl, hcell⟩ hB1) hok)
  have c0 : W1.cell? ⟨b1, 0, none⟩ = some (.int .i64 n.sc) := by rw [hK1.cell]; rfl
  have c1 : W1.cell? ⟨b1, 1, none⟩ = some (.slice y n.ws.length c) := by rw [hK1.cell]; rfl
  have l1 := hK1.lt
  clear hstd hcell hok hB1 hK1
  go_enter Tryz.func48, Tryz.ntmps48
  go_upto_region 1 with fail
  rw [← hW1, ← hb1]
  clear hW1 hb1
  go_wp2_with fail
  go_at_call 49
  refine HV.out.mono ?_
  rintro e W3 ⟨rfl, hb⟩
  have HB3 : Hid (Below w.heap.size w W3) := HB1.out.trans (hb.mono HB1.out.size)
  clear hb HV c0 c1 l1
  go_wp2_with fail
  go_ret
  exact ⟨rfl, HB3.out⟩
abbrev kWrong : Value := .func (.func 48) #[] #[]
set_option maxRecDepth 100000 in
set_option maxHeartbeats 4000000 in
theorem index_c (ns : List Nm) (v : Value) (w : World) (hstd : Std w) (hv : IsNames w v ns) (hok : ∀ n ∈ ns, NmOk n) (hn : ns.length ≤ 8) : Calls Tryz.prog 69 #[v, kWrong] w fun e w' => (∃ i : Int, e = .returned (.int .i64 i) ∧ (i ≥ 0 ↔ ns.all validB = false)) ∧ Below w.heap.size w w' := by
  have HNs := Lib.hid hv
  obtain ⟨y, c, rfl, -⟩ := hv
  obtain ⟨m, hm⟩ : ∃ m, m = ns.length := ⟨_, rfl⟩
  have HM := Lib.hid hm
  have HStd := Lib.hid hstd
  have HOk := Lib.hid hok
  rw [← hm] at HNs hn ⊢
  clear hm hstd hok
  go_enter Tryz.func69, Tryz.ntmps69
  go_wp2_with fail
  go_loopw [8] (fun i wr => ∃ j : Nat, j ≤ m ∧ i = .int .i64 (j : Int) ∧ Hid ((ns.take j).all validB = true) ∧ Hid (Below w.heap.size w wr)) (fun i _ => m - (intOf i).toNat)
  case atStart => exact ⟨0, Nat.zero_le _, rfl, by simp [Hid], Lib.hid (Below.refl _ _)⟩
  obtain ⟨j, hj, rfl, hA, hB⟩ := hrel
  by_cases hjm : j < m
  · have hlt : (j : Int) < (m : Int) := by omega
    have hx : ns[j]? = some (ns[j]'(by rw [← HM.out]; exact hjm)) := List.getElem?_eq_getElem _
    obtain ⟨n, hxx⟩ : ∃ x, ns[j]? = some x := ⟨_, hx⟩
    clear hx
    obtain ⟨y', c', e0, hcell⟩ := HNs.out
    cases e0
    obtain ⟨g, o, wv, rfl, hg, d0, d1, hws⟩ := hcell j n hxx
    have d2 := old_cell hB.out d0
    have d3 := old_cell hB.out d1
    have hg1 : g < wr.heap.size := Nat.lt_of_lt_of_le hg hB.out.size
    have hw1 := words_below hws hB.out
    have HV := Lib.hid (wrong_c n wv wr (HStd.out.below hB.out) hw1 (HOk.out n (List.mem_of_getElem? hxx)))
    obtain ⟨y3, c3, rfl, -⟩ := hws
    have HX := Lib.hid hxx
    clear hcell d0 d1 hg hw1 hxx
    go_wp2_with fail
    go_at_call 48
    refine HV.out.mono ?_
    rintro e W3 ⟨rfl, hb⟩
    have HB3 : Hid (Below w.heap.size w W3) := hB.out.trans (hb.mono hB.out.size)
    clear hb HV d2 d3 hg1
    rcases hv : validB n with _ | _
    · have HE : Hid (ns.all validB = false) := List.all_eq_false.2 ⟨n, List.mem_of_getElem? HX.out, by rw [hv]; simp⟩
      clear hv
      go_wp2_with fail
      go_ret
      exact ⟨⟨_, rfl, by rw [HE.out]; simp⟩, HB3.out⟩
    · have HA2 : Hid ((ns.take (j + 1)).all validB = true) := by
        obtain ⟨hj1, e1⟩ := List.getElem?_eq_some_iff.1 HX.out
        show _ = _
        rw [List.take_succ_eq_append_getElem hj1, e1, List.all_append, hA.out]
        simp [hv]
      clear hv
      go_wp2_with fail
      go_roundw
      case rel => exact ⟨j + 1, by omega, by go_num, HA2, HB3⟩
      case measure => simp [intOf]; omega
  · obtain rfl : j = m := by omega
    have HE : Hid (ns.all validB = true) := by
      have := hA.out
      rwa [HM.out, List.take_length] at this
    clear hjm hj hA
    go_wp2_with fail
    go_ret
    exact ⟨⟨_, rfl, by rw [HE.out]; simp⟩, hB.out⟩
theorem wrongs_c (ns : List Nm) (v : Value) (w : World) (hstd : Std w) (hv : IsNames w v ns) (hok : ∀ n ∈ ns, NmOk n) (hn : ns.length ≤ 8) : Calls Tryz.prog 50 #[v, kWrong] w fun e w' => e = .returned (.bool (!ns.all validB)) ∧ Below w.heap.size w w' := by
  have HI := Lib.hid (index_c ns v w hstd hv hok hn)
  obtain ⟨y, c, rfl, -⟩ := hv
  clear hstd hok hn
  go_enter Tryz.func50, Tryz.ntmps50
  go_wp2_with fail
  go_at_call 69
  refine HI.out.mono ?_
  rintro e W1 ⟨⟨i, rfl, hi⟩, hb⟩
  have HB := Lib.hid hb
  clear hb HI
  by_cases h0 : i ≥ 0
  · have HE : Hid (ns.all validB = false) := hi.1 h0
    have hd : decide (0 ≤ i) = true := by simpa using h0
    clear hi
    go_wp2_with fail
    go_ret
    rw [HE.out]
    exact ⟨rfl, HB.out⟩
  · have HE : Hid (ns.all validB = true) := by
      show _ = _
      rcases h : ns.all validB with _ | _
      · exact absurd (hi.2 h) h0
      · rfl
    have hd : decide (0 ≤ i) = false := by simp; omega
    clear hi
    go_wp2_with fail
    go_ret
    rw [HE.out]
    exact ⟨rfl, HB.out⟩
set_option maxRecDepth 100000 in
set_option maxHeartbeats 4000000 in
theorem Proper_c (id : Bytes) (ns : List Nm) (v : Value) (w : World) (hstd : Std w) (hv : IsNames w v ns) (hok : ∀ n ∈ ns, NmOk n) (hid : id.length ≤ 1000) : Calls Tryz.prog 31 #[.agg #[.string (bs id), v]] w fun e w' => e = .returned (.bool (propB id ns)) ∧ Below w.heap.size w w' := by
  have HNs := Lib.hid hv
  obtain ⟨y, c, rfl, -⟩ := hv
  obtain ⟨m, hm⟩ : ∃ m, m = ns.length := ⟨_, rfl⟩
  have HM := Lib.hid hm
  rw [← hm] at HNs ⊢
  obtain ⟨W1, hW1⟩ : ∃ W, W = w.alloc (.cells #[.string (bs id), .slice y m c] 27) := ⟨_, rfl⟩
  obtain ⟨b1, hb1⟩ : ∃ x, x = w.heap.size := ⟨_, rfl⟩
  have hB1 : Below w.heap.size w W1 := by rw [hW1]; exact (Below.refl _ _).alloc (Nat.le_refl _) _
  have hK1 : Bk W1 b1 #[.string (bs id), .slice y m c] 27 := by rw [hW1, hb1]; exact Bk.new _ _ _
  have HB1 := Lib.hid hB1
  have HK1 := Lib.hid hK1
  have HStd := Lib.hid hstd
  have HOk := Lib.hid hok
  have HId := Lib.hid (ident_c id (fun _ => idxAny) W1 (by omega))
  have c0 : W1.cell? ⟨b1, 0, none⟩ = some (.string (bs id)) := by rw [hK1.cell]; rfl
  have l1 := hK1.lt
  clear hstd hok hB1 hK1 hm hid
  go_enter Tryz.func31, Tryz.ntmps31
  go_upto_region 1 with fail
  rw [← hW1, ← hb1]
  clear hW1 hb1
  go_wp2_with fail
  go_at_call 47
  refine HId.out.mono ?_
  rintro e W2 ⟨rfl, hb⟩
  have hk2 := HK1.out.below hb
  have HB2 : Hid (Below w.heap.size w W2) := HB1.out.trans (hb.mono HB1.out.size)
  have c1 : W2.cell? ⟨b1, 1, none⟩ = some (.slice y m c) := by rw [hk2.cell]; rfl
  have l2 := hk2.lt
  clear hb hk2 c0 l1 HId
  rcases hi : identB id with _ | _
  · have HE : Hid (propB id ns = false) := by show _ = _; unfold propB; rw [hi]; rfl
    clear hi
    go_wp2_with fail
    go_ret
    rw [HE.out]
    exact ⟨rfl, HB2.out⟩
  rcases Nat.eq_zero_or_pos m with rfl | hpos
  · have HE : Hid (propB id ns = false) := by show _ = _; unfold propB; rw [← HM.out]; simp
    clear hi
    go_wp2_with fail
    go_ret
    rw [HE.out]
    exact ⟨rfl, HB2.out⟩
  have hp : ((m : Nat) : Int) > 0 := by omega
  by_cases h8 : m ≤ 8
  rotate_left
  · have HE : Hid (propB id ns = false) := by show _ = _; unfold propB; rw [← HM.out]; simp; intros; omega
    have h8' : ¬ ((m : Nat) : Int) ≤ 8 := by omega
    clear hi
    go_wp2_with fail
    go_ret
    rw [HE.out]
    exact ⟨rfl, HB2.out⟩
  have h8' : ((m : Nat) : Int) ≤ 8 := by omega
  have HE : Hid (propB id ns = ns.all validB) := by
    have h : decide (0 < m ∧ m ≤ 8) = true := by simp; omega
    show _ = _
    unfold propB
    rw [← HM.out, hi, h, Bool.true_and, Bool.true_and]
  clear hi
  go_wp2_with fail
  go_at_call 50
  refine (wrongs_c ns (.slice y m c) W2 (HStd.out.below HB2.out) (names_below HNs.out HB2.out) HOk.out (by rw [← HM.out]; exact h8)).mono ?_
  rintro e W3 ⟨rfl, hb⟩
  have HB3 : Hid (Below w.heap.size w W3) := HB2.out.trans (hb.mono HB2.out.size)
  clear hb c1 l2
  go_wp2_with fail
  go_ret
  rw [HE.out]
  exact ⟨by simp, HB3.out⟩
end Go.Proofs.YtckocgkndbdhcaaGreatDoor
