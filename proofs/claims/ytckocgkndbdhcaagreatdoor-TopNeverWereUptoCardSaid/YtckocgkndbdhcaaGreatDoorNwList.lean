/-
  The list of an authority: 'proper' of a list that is proper.
-/
import Derived.Test.YtckocgkndbdhcaaGreatDoorNwForm
import Derived.Test.YtckocgkndbdhcaaGreatDoorNwMap
namespace Go.Cz.Nw
open Go.Cz.Lx
structure Lst where
  id : Bytes
  nv : Value
  ns : List Nm
  fr : Int
  til : Int
  vd : Bool
def lsl (x : Lst) : List Value := [.string (bs x.id), x.nv, .int .i64 x.fr, .int .i64 x.til, .bool x.vd]
def lss (l : List Lst) : List Value := l.flatMap lsl
theorem lss_len : ∀ l : List Lst, (lss l).length = l.length * 5
  | [] => rfl
  | a :: r => by
    have e : lss (a :: r) = lsl a ++ lss r := rfl
    rw [e, List.length_append, lss_len r, List.length_cons]
    simp [lsl]
    omega
theorem lss_append (l r : List Lst) : lss (l ++ r) = lss l ++ lss r := by simp [lss]
theorem lss_at : ∀ (l : List Lst) (j : Nat) (x : Lst), l[j]? = some x → (lss l)[j * 5]? = some (.string (bs x.id)) ∧ (lss l)[j * 5 + 1]? = some x.nv ∧ (lss l)[j * 5 + 2]? = some (.int .i64 x.fr) ∧ (lss l)[j * 5 + 3]? = some (.int .i64 x.til) ∧ (lss l)[j * 5 + 4]? = some (.bool x.vd)
  | [], j, x, h => by simp at h
  | a :: r, 0, x, h => by
    simp at h
    subst h
    simp [lss, lsl]
  | a :: r, j + 1, x, h => by
    have h1 := lss_at r j x (by simpa using h)
    have e : lss (a :: r) = lsl a ++ lss r := rfl
    have e0 : ∀ i, (lsl a ++ lss r)[(j + 1) * 5 + i]? = (lss r)[j * 5 + i]? := fun i => by
      rw [List.getElem?_append_right (by simp [lsl]; omega)]
      congr 1
      simp [lsl]
      omega
    have e1 := e0 0
    simp only [Nat.add_zero] at e1
    rw [e, e1, e0, e0, e0, e0]
    exact h1
/-- What an entry of a list is always like; its names lie in a world. -/
structure LstOk (w : World) (x : Lst) : Prop where
  prop : propB x.id x.ns = true
  fr : instB x.fr = true
  til : x.til = -1 ∨ instB x.til = true ∧ x.fr < x.til
  id : x.id.length ≤ 1000
  ns : ∀ n ∈ x.ns, NmOk n
  nv : IsNames w x.nv x.ns
structure ListOk (w : World) (l : List Lst) : Prop where
  each : ∀ x ∈ l, LstOk w x
  ids : (l.map (·.id)).Nodup
  len : l.length ≤ 400
/-- The places of the Ids. -/
def idxE : Nat → List Lst → List MapEntry
  | _, [] => []
  | i, x :: r => { key := .string (bs x.id), val := .int .i64 (i : Int), born := i } :: idxE (i + 1) r
theorem idxE_snoc : ∀ (i : Nat) (l : List Lst) (x : Lst), idxE i (l ++ [x]) = idxE i l ++ [{ key := .string (bs x.id), val := .int .i64 ((i + l.length : Nat) : Int), born := i + l.length }]
  | i, [], x => rfl
  | i, y :: r, x => by
    simp only [List.cons_append, idxE, idxE_snoc (i + 1) r x, List.length_cons]
    rw [show i + 1 + r.length = i + (r.length + 1) by omega]
theorem idxE_len : ∀ (i : Nat) (l : List Lst), (idxE i l).length = l.length
  | _, [] => rfl
  | i, x :: r => by simp [idxE, idxE_len]
theorem idxE_keys : ∀ (i : Nat) (l : List Lst), (idxE i l).map (·.key) = (l.map (·.id)).map (fun k => Value.string (bs k))
  | _, [] => rfl
  | i, x :: r => by simp [idxE, idxE_keys]
theorem find_idx : ∀ (i : Nat) (l : List Lst) (j : Nat) (x : Lst), (l.map (·.id)).Nodup → l[j]? = some x → ∀ q, Instr.findNow .string (.string (bs x.id)) (idxE i l) q = some (some (q + j, .int .i64 ((i + j : Nat) : Int)))
  | i, [], j, x, _, h, q => by simp at h
  | i, y :: r, 0, x, _, h, q => by
    simp at h
    subst h
    simp [idxE, Instr.findNow, Instr.sameNow, bs_beq]
  | i, y :: r, j + 1, x, hn, h, q => by
    have hx : r[j]? = some x := by simpa using h
    simp only [List.map_cons, List.nodup_cons] at hn
    have hne : ¬ x.id = y.id := fun e => hn.1 (by rw [← e]; exact List.mem_map_of_mem (List.mem_of_getElem? hx))
    have ih := find_idx (i + 1) r j x hn.2 hx (q + 1)
    rw [idxE, Instr.findNow]
    simp only [Instr.sameNow, bs_beq, hne, decide_false]
    rw [show i + 1 + j = i + (j + 1) by omega, show q + 1 + j = q + (j + 1) by omega] at ih
    exact ih
end Go.Cz.Nw
namespace Go.Proofs.YtckocgkndbdhcaaGreatDoor
open Go.RowKit Go.Cz Go.Cz.Nw Go.Cz.Lx Go.ChangeMaps
set_option linter.unusedSimpArgs false
set_option linter.unusedVariables false
attribute [local go_sem] bs_size bs_extract bs_append bs_toList
attribute [local irreducible] cList
theorem mapIU : Tryz.prog.underlying 52 = some (.map 9 3) := by kernel_rfl
theorem strU : Tryz.prog.underlying 9 = some .string := by kernel_rfl
theorem zeroIn (w : World) : (zeroValue 3).run Tryz.prog w = .ok (.int .i64 0) w := by kernel_rfl
theorem mk_map (t : TypeId) (W : World) : (Instr.makeMap t none).run Tryz.prog W = .ok (.map (some W.heap.size)) (W.alloc (.map #[] 0)) := rfl
theorem take_snocL {l : List Lst} {j : Nat} {x : Lst} (h : l[j]? = some x) : l.take (j + 1) = l.take j ++ [x] := by
  obtain ⟨hj, rfl⟩ := List.getElem?_eq_some_iff.1 h
  exact List.take_succ_eq_append_getElem hj
theorem fresh_id {l : List Lst} {j : Nat} {x : Lst} (hn : (l.map (·.id)).Nodup) (h : l[j]? = some x) : x.id ∉ (l.take j).map (·.id) := by
  have e : l.take (j + 1) = l.take j ++ [x] := take_snocL h
  have h1 : ((l.take (j + 1)).map (·.id)).Nodup := by
    rw [List.map_take]
    exact hn.sublist (List.take_sublist _ _)
  rw [e, List.map_append, List.nodup_append] at h1
  intro hx
  exact h1.2.2 _ hx _ (by simp) rfl
theorem lp_res {W : World} {tmps : Array Value} : (results Tryz.f17 tmps).run Tryz.prog W = .ok (.tuple #[tmps.getD 2 undef, tmps.getD 3 undef]) W := by
  simp [results, Tryz.results17, go_sem]
theorem below_turn {w W : World} {g : Nat} (h : Below w.heap.size w W) (hg : w.heap.size ≤ g) (o : Obj) : Below w.heap.size w (setBlock W g o) := by
  have hm := setBlock_mod W g o
  refine ⟨hm.os.trans h.os, hm.tape.trans h.tape, hm.output.trans h.output, Nat.le_trans h.size hm.size, fun k hk => ?_⟩
  have h1 : k < W.heap.size := Nat.lt_of_lt_of_le hk h.size
  exact (hm.block k h1 (by simp; omega)).trans (h.block k hk)
set_option maxRecDepth 100000 in
set_option maxHeartbeats 8000000 in
theorem lproper_c (l : List Lst) (v : Value) (w : World) (hstd : Std w) (hrow : w.ownsRow 0 57 5 v l.length (lss l)) (hl : ListOk w l) :
    Calls Tryz.prog 17 #[v] w fun e w' => ∃ g, e = .returned (.tuple #[.map (some g), .bool true]) ∧ w.heap.size ≤ g ∧ w'.heap[g]? = some (.map (idxE 0 l).toArray l.length) ∧ Below w.heap.size w w' := by
  obtain ⟨yr, cr, rfl⟩ := row_form hrow
  obtain ⟨n, hn⟩ : ∃ n, n = l.length := ⟨_, rfl⟩
  have HN := Lib.hid hn
  have HRow := Lib.hid hrow
  have HL := Lib.hid hl
  have HStd := Lib.hid hstd
  have hn4 : n ≤ 400 := by rw [hn]; exact hl.len
  rw [← hn] at HRow ⊢
  have hB1 : Below w.heap.size w (w.alloc (.map #[] 0)) := (Below.refl _ _).alloc (Nat.le_refl _) _
  have hm1 : (w.alloc (.map #[] 0)).heap[w.heap.size]? = some (.map #[] 0) := new_heap _ _ _ rfl
  obtain ⟨W1, hW1⟩ : ∃ W, W = w.alloc (.map #[] 0) := ⟨_, rfl⟩
  obtain ⟨g, hg⟩ : ∃ x, x = w.heap.size := ⟨_, rfl⟩
  rw [← hW1] at hB1 hm1
  rw [← hg] at hm1
  have HB1 := Lib.hid hB1
  have HM1 := Lib.hid hm1
  have HG : Hid (w.heap.size ≤ g) := by show _ ≤ _; omega
  have hm := @mk_map
  clear hrow hl hstd hn hB1 hm1
  go_enter Tryz.func17, Tryz.ntmps17
  go_wp2_with fail
  rw [← hW1, ← hg]
  clear hW1 hg hm
  go_loopw [12] (fun i wr => ∃ j : Nat, j ≤ n ∧ i = .int .i64 (j : Int) ∧ Hid (wr.heap[g]? = some (.map (idxE 0 (l.take j)).toArray j)) ∧ Hid (Below w.heap.size w wr)) (fun i _ => n - (intOf i).toNat)
  case atStart => exact ⟨0, Nat.zero_le _, rfl, HM1, HB1⟩
  clear HM1 HB1
  obtain ⟨j, hj, rfl, HMp, HB⟩ := hrel
  by_cases hjn : j < n
  · have hlt : (j : Int) < (n : Int) := by omega
    have hx : l[j]? = some (l[j]'(by rw [← HN.out]; exact hjn)) := List.getElem?_eq_getElem _
    obtain ⟨x, hxx⟩ : ∃ x, l[j]? = some x := ⟨_, hx⟩
    clear hx
    obtain ⟨gr, cr', e0, -, -, hgr, -, hcl⟩ := row_at HRow.out (by omega)
    cases e0
    obtain ⟨q0, q1, q2, q3, q4⟩ := lss_at l j x hxx
    have d0 := old_cell HB.out (hcl _ _ q0)
    have d1 := old_cell HB.out (hcl _ _ q1)
    have d2 := old_cell HB.out (hcl _ _ q2)
    have d3 := old_cell HB.out (hcl _ _ q3)
    have d4 := old_cell HB.out (hcl _ _ q4)
    have hgr1 : gr < wr.heap.size := Nat.lt_of_lt_of_le hgr HB.out.size
    have hxo := HL.out.each x (List.mem_of_getElem? hxx)
    have HFr := Lib.hid (fresh_id HL.out.ids hxx)
    have HX := Lib.hid hxx
    have HXO := Lib.hid hxo
    obtain ⟨xid, nv, ns, fr, tt, vd⟩ := x
    dsimp only at d0 d1 d2 d3 d4 hxo
    obtain ⟨y, cc, hnv, -⟩ := hxo.nv
    dsimp only at hnv
    subst hnv
    obtain ⟨m, hmm⟩ : ∃ m, m = ns.length := ⟨_, rfl⟩
    have HMM := Lib.hid hmm
    rw [← hmm] at d1 HX HXO
    clear hmm hcl q0 q1 q2 q3 q4 hgr hxx hxo
    go_upto_region 5 with fail
    clear d0 d1 d2 d3 d4 hgr1
    obtain ⟨b6, hb6⟩ : ∃ x, x = wr.heap.size := ⟨_, rfl⟩
    obtain ⟨W5, hW5⟩ : ∃ W, W = wr.alloc (.cells #[.string (bs xid), .slice y m cc, .int .i64 fr, .int .i64 tt, .bool vd] 57) := ⟨_, rfl⟩
    have hb : Below wr.heap.size wr W5 := by rw [hW5]; exact (Below.refl _ _).alloc (Nat.le_refl _) _
    have he6 : Bk W5 b6 #[.string (bs xid), .slice y m cc, .int .i64 fr, .int .i64 tt, .bool vd] 57 := by rw [hW5, hb6]; exact Bk.new _ _ _
    have HE6 := Lib.hid he6
    rw [← hW5, ← hb6]
    clear hW5 hb6 he6
    replace HB := Lib.hid (HB.out.trans (hb.mono HB.out.size))
    replace HMp := Lib.hid ((hb.block g (lt_of_block HMp.out)).trans HMp.out)
    clear hb
    have HFn : Hid (Instr.findNow .string (.string (bs xid)) (idxE 0 (l.take j)) 0 = some none) := Lib.hid (find_none xid (idxE 0 (l.take j)) ((l.take j).map (·.id)) 0 (idxE_keys _ _) HFr.out)
    have hms := map_miss (P := Tryz.prog) mapIU strU HMp.out xid (zeroIn W5) true HFn.out
    have hbk := HE6.out
    have e0 : W5.cell? ⟨b6, 0, none⟩ = some (.string (bs xid)) := by rw [hbk.cell]; rfl
    have e1 : W5.cell? ⟨b6, 1, none⟩ = some (.slice y m cc) := by rw [hbk.cell]; rfl
    have e2 : W5.cell? ⟨b6, 2, none⟩ = some (.int .i64 fr) := by rw [hbk.cell]; rfl
    have e3 : W5.cell? ⟨b6, 3, none⟩ = some (.int .i64 (tt)) := by rw [hbk.cell]; rfl
    have e4 : W5.cell? ⟨b6, 4, none⟩ = some (.bool vd) := by rw [hbk.cell]; rfl
    have l6 := hbk.lt
    clear hbk
    go_wp2_with fail
    clear hms
    clear e0 e1 e2 e3 e4 l6
    go_at_call 31
    refine (Proper_c xid ns (.slice y m cc) W5 (HStd.out.below HB.out) (names_below HXO.out.nv HB.out) HXO.out.ns HXO.out.id).mono ?_
    rintro e W6 ⟨rfl, hb⟩
    rw [HXO.out.prop]
    -- behind a call: %1 the world before, %2 the world now
    replace HB := Lib.hid (HB.out.trans (hb.mono HB.out.size))
    replace HMp := Lib.hid ((hb.block g (lt_of_block HMp.out)).trans HMp.out)
    replace HE6 := Lib.hid (HE6.out.below hb)
    clear hb
    have hbk := HE6.out
    have e0 : W6.cell? ⟨b6, 0, none⟩ = some (.string (bs xid)) := by rw [hbk.cell]; rfl
    have e1 : W6.cell? ⟨b6, 1, none⟩ = some (.slice y m cc) := by rw [hbk.cell]; rfl
    have e2 : W6.cell? ⟨b6, 2, none⟩ = some (.int .i64 fr) := by rw [hbk.cell]; rfl
    have e3 : W6.cell? ⟨b6, 3, none⟩ = some (.int .i64 (tt)) := by rw [hbk.cell]; rfl
    have e4 : W6.cell? ⟨b6, 4, none⟩ = some (.bool vd) := by rw [hbk.cell]; rfl
    have l6 := hbk.lt
    clear hbk
    go_wp2_with fail
    clear e0 e1 e2 e3 e4 l6
    go_at_call 18
    refine (inst_c fr W6 (HStd.out.below HB.out)).mono ?_
    rintro e W7 ⟨rfl, hb⟩
    rw [HXO.out.fr]
    -- behind a call: %1 the world before, %2 the world now
    replace HB := Lib.hid (HB.out.trans (hb.mono HB.out.size))
    replace HMp := Lib.hid ((hb.block g (lt_of_block HMp.out)).trans HMp.out)
    replace HE6 := Lib.hid (HE6.out.below hb)
    clear hb
    have HSn : Hid (idxE 0 (l.take j) ++ [mE xid (.int .i64 (j : Int)) j] = idxE 0 (l.take (j + 1))) := by
      show _ = _
      have hlen : (l.take j).length = j := by rw [List.length_take, ← HN.out]; omega
      rw [take_snocL HX.out, idxE_snoc, hlen, Nat.zero_add]
    by_cases ht : tt = -1
    · subst ht
      -- the place is written into the map: W7 the world
      have hnew := map_new (P := Tryz.prog) mapIU strU HMp.out xid (.int .i64 (j : Int)) HFn.out
      have HM3 : Hid ((setBlock W7 g (.map (idxE 0 (l.take j) ++ [mE xid (.int .i64 (j : Int)) j]).toArray (j + 1))).heap[g]? = some (.map (idxE 0 (l.take (j + 1))).toArray (j + 1))) := by
        rw [← HSn.out]
        exact setBlock_at HMp.out _
      have HB3 : Hid (Below w.heap.size w (setBlock W7 g (.map (idxE 0 (l.take j) ++ [mE xid (.int .i64 (j : Int)) j]).toArray (j + 1)))) := below_turn HB.out HG.out _
      have hbk := HE6.out
      have e0 : W7.cell? ⟨b6, 0, none⟩ = some (.string (bs xid)) := by rw [hbk.cell]; rfl
      have e1 : W7.cell? ⟨b6, 1, none⟩ = some (.slice y m cc) := by rw [hbk.cell]; rfl
      have e2 : W7.cell? ⟨b6, 2, none⟩ = some (.int .i64 fr) := by rw [hbk.cell]; rfl
      have e3 : W7.cell? ⟨b6, 3, none⟩ = some (.int .i64 (-1)) := by rw [hbk.cell]; rfl
      have e4 : W7.cell? ⟨b6, 4, none⟩ = some (.bool vd) := by rw [hbk.cell]; rfl
      have l6 := hbk.lt
      clear hbk
      go_wp2_with fail
      go_roundw
      case rel => exact ⟨j + 1, by omega, by go_num, HM3, HB3⟩
      case measure => simp [intOf]; omega
    · obtain ⟨ht1, ht2⟩ := HXO.out.til.resolve_left ht
      dsimp only at ht1 ht2
      have HT1 := Lib.hid ht1
      have ht3 : ¬ tt ≤ fr := by omega
      have ht5 : (tt != -1) = true := by simpa using ht
      clear ht1 ht ht2
      have hbk := HE6.out
      have e0 : W7.cell? ⟨b6, 0, none⟩ = some (.string (bs xid)) := by rw [hbk.cell]; rfl
      have e1 : W7.cell? ⟨b6, 1, none⟩ = some (.slice y m cc) := by rw [hbk.cell]; rfl
      have e2 : W7.cell? ⟨b6, 2, none⟩ = some (.int .i64 fr) := by rw [hbk.cell]; rfl
      have e3 : W7.cell? ⟨b6, 3, none⟩ = some (.int .i64 (tt)) := by rw [hbk.cell]; rfl
      have e4 : W7.cell? ⟨b6, 4, none⟩ = some (.bool vd) := by rw [hbk.cell]; rfl
      have l6 := hbk.lt
      clear hbk
      go_wp2_with fail
      clear e0 e1 e2 e3 e4 l6
      go_at_call 18
      refine (inst_c tt W7 (HStd.out.below HB.out)).mono ?_
      rintro e W8 ⟨rfl, hb⟩
      rw [HT1.out]
      -- behind a call: %1 the world before, %2 the world now
      replace HB := Lib.hid (HB.out.trans (hb.mono HB.out.size))
      replace HMp := Lib.hid ((hb.block g (lt_of_block HMp.out)).trans HMp.out)
      replace HE6 := Lib.hid (HE6.out.below hb)
      clear hb
      -- the place is written into the map: W8 the world
      have hnew := map_new (P := Tryz.prog) mapIU strU HMp.out xid (.int .i64 (j : Int)) HFn.out
      have HM3 : Hid ((setBlock W8 g (.map (idxE 0 (l.take j) ++ [mE xid (.int .i64 (j : Int)) j]).toArray (j + 1))).heap[g]? = some (.map (idxE 0 (l.take (j + 1))).toArray (j + 1))) := by
        rw [← HSn.out]
        exact setBlock_at HMp.out _
      have HB3 : Hid (Below w.heap.size w (setBlock W8 g (.map (idxE 0 (l.take j) ++ [mE xid (.int .i64 (j : Int)) j]).toArray (j + 1)))) := below_turn HB.out HG.out _
      have hbk := HE6.out
      have e0 : W8.cell? ⟨b6, 0, none⟩ = some (.string (bs xid)) := by rw [hbk.cell]; rfl
      have e1 : W8.cell? ⟨b6, 1, none⟩ = some (.slice y m cc) := by rw [hbk.cell]; rfl
      have e2 : W8.cell? ⟨b6, 2, none⟩ = some (.int .i64 fr) := by rw [hbk.cell]; rfl
      have e3 : W8.cell? ⟨b6, 3, none⟩ = some (.int .i64 (tt)) := by rw [hbk.cell]; rfl
      have e4 : W8.cell? ⟨b6, 4, none⟩ = some (.bool vd) := by rw [hbk.cell]; rfl
      have l6 := hbk.lt
      clear hbk
      go_wp2_with fail
      go_roundw
      case rel => exact ⟨j + 1, by omega, by go_num, HM3, HB3⟩
      case measure => simp [intOf]; omega
  · obtain rfl : j = n := by omega
    have HM2 : Hid (wr.heap[g]? = some (.map (idxE 0 l).toArray j)) := by
      have h := HMp.out
      rw [HN.out, List.take_length, ← HN.out] at h
      exact h
    have hj4 : decide ((j : Int) ≤ 400) = true := by simp; omega
    clear hjn hj
    go_wp2_with fail
    refine bodyPost_ret lp_res (by rfl) ⟨g, rfl, HG.out, HM2.out, HB.out⟩
end Go.Proofs.YtckocgkndbdhcaaGreatDoor
