/-
  Changes that are well-formed.
-/
import Derived.Test.YtckocgkndbdhcaaGreatDoorNwName
namespace Go.Cz.Nw
open Go.Cz.Lx
structure Chg where
  k : Int
  id : Bytes
  eid : Bytes
  nv : Value
  ns : List Nm
  at_ : Int
/-- Whether a change is well-formed. -/
def formedB (c : Chg) : Bool :=
  if identB c.id = false ∨ c.k < 1 ∨ 4 < c.k then false
  else if c.k = 1 then c.eid == c.id && (propB c.eid c.ns && instB c.at_)
  else if c.k = 2 then c.eid == [] && (c.ns.length == 0 && instB c.at_)
  else if c.k = 3 then c.eid == c.id && (propB c.eid c.ns && c.at_ == 0)
  else c.eid == [] && (c.ns.length == 0 && c.at_ == 0)
/-- The sizes of a change are moderate. -/
structure ChgOk (c : Chg) : Prop where
  id : c.id.length ≤ 1000
  eid : c.eid.length ≤ 1000
  ns : ∀ n ∈ c.ns, NmOk n
end Go.Cz.Nw
namespace Go.Proofs.YtckocgkndbdhcaaGreatDoor
open Go.RowKit Go.Cz Go.Cz.Nw Go.Cz.Lx
set_option linter.unusedSimpArgs false
set_option linter.unusedVariables false
attribute [local go_sem] bs_size bs_extract bs_append bs_toList
attribute [local irreducible] cList
abbrev chV (c : Chg) : Value := .agg #[.int .i64 c.k, .string (bs c.id), .string (bs c.eid), c.nv, .int .i64 c.at_]
theorem inst_c (t : Int) (w : World) (hs : Std w) : Calls Tryz.prog 18 #[.int .i64 t] w fun e w' => e = .returned (.bool (instB t)) ∧ Below w.heap.size w w' := by
  have HT := Lib.hid (Text_c t w hs)
  rcases hb : instB t with _ | _
  · have HE : Hid ((textF t).2 = 1) := by show _ = _; unfold textF; rw [hb]; rfl
    clear hb
    go_enter Tryz.func18, Tryz.ntmps18
    go_wp2_with fail
    go_at_call 32
    refine HT.out.mono ?_
    rintro e W1 ⟨rfl, hb⟩
    rw [HE.out]
    have HB := Lib.hid hb
    clear hb HT
    go_wp2_with fail
    go_ret
    exact ⟨rfl, HB.out⟩
  · have HE : Hid ((textF t).2 = 0) := by show _ = _; unfold textF; rw [hb]; rfl
    clear hb
    go_enter Tryz.func18, Tryz.ntmps18
    go_wp2_with fail
    go_at_call 32
    refine HT.out.mono ?_
    rintro e W1 ⟨rfl, hb⟩
    rw [HE.out]
    have HB := Lib.hid hb
    clear hb HT
    go_wp2_with fail
    go_ret
    exact ⟨rfl, HB.out⟩
set_option maxRecDepth 100000 in
set_option maxHeartbeats 8000000 in
theorem formed_c (c : Chg) (w : World) (hstd : Std w) (hv : IsNames w c.nv c.ns) (hok : ChgOk c) : Calls Tryz.prog 29 #[chV c] w fun e w' => e = .returned (.bool (formedB c)) ∧ Below w.heap.size w w' := by
  obtain ⟨k, id, eid, nv, ns, t⟩ := c
  obtain ⟨o1, o2, o3⟩ := hok
  dsimp only at hv o1 o2 o3
  have HNs := Lib.hid hv
  obtain ⟨y, cc, rfl, -⟩ := hv
  obtain ⟨m, hm⟩ : ∃ m, m = ns.length := ⟨_, rfl⟩
  have HM := Lib.hid hm
  dsimp only [chV]
  rw [← hm] at HNs ⊢
  obtain ⟨W1, hW1⟩ : ∃ W, W = w.alloc (.cells #[.int .i64 k, .string (bs id), .string (bs eid), .slice y m cc, .int .i64 t] 29) := ⟨_, rfl⟩
  obtain ⟨b1, hb1⟩ : ∃ x, x = w.heap.size := ⟨_, rfl⟩
  have hB1 : Below w.heap.size w W1 := by rw [hW1]; exact (Below.refl _ _).alloc (Nat.le_refl _) _
  have hK1 : Bk W1 b1 #[.int .i64 k, .string (bs id), .string (bs eid), .slice y m cc, .int .i64 t] 29 := by rw [hW1, hb1]; exact Bk.new _ _ _
  have HB1 := Lib.hid hB1
  have HK1 := Lib.hid hK1
  have HStd := Lib.hid hstd
  have HOk := Lib.hid o3
  have HId := Lib.hid (ident_c id (fun _ => idxAny) W1 (by omega))
  have HPr := Lib.hid fun (W : World) (hb : Below w.heap.size w W) => Proper_c eid ns (.slice y m cc) W (hstd.below hb) (names_below HNs.out hb) o3 o2
  clear hstd o1 o2 o3 hB1 hK1 hm
  by_cases k1 : k = 1
  · subst k1
    rcases hi : identB id with _ | _
    · have HE : Hid (formedB ⟨1, id, eid, .slice y m cc, ns, t⟩ = false) := by show _ = _; simp [formedB, hi]
      have hbk := HK1.out
      have c0 : W1.cell? ⟨b1, 0, none⟩ = some (.int .i64 (1)) := by rw [hbk.cell]; rfl
      have c1 : W1.cell? ⟨b1, 1, none⟩ = some (.string (bs id)) := by rw [hbk.cell]; rfl
      have c2 : W1.cell? ⟨b1, 2, none⟩ = some (.string (bs eid)) := by rw [hbk.cell]; rfl
      have c3 : W1.cell? ⟨b1, 3, none⟩ = some (.slice y m cc) := by rw [hbk.cell]; rfl
      have c4 : W1.cell? ⟨b1, 4, none⟩ = some (.int .i64 t) := by rw [hbk.cell]; rfl
      have l1 := hbk.lt
      clear hbk
      go_enter Tryz.func29, Tryz.ntmps29
      go_upto_region 1 with fail
      rw [← hW1, ← hb1]
      clear hW1 hb1
      go_wp2_with fail
      go_at_call 47
      refine HId.out.mono ?_
      rintro e W2 ⟨rfl, hb⟩
      have HB2 : Hid (Below w.heap.size w W2) := HB1.out.trans (hb.mono HB1.out.size)
      have HK2 := Lib.hid (HK1.out.below hb)
      clear hb HId
      clear c0 c1 c2 c3 c4 l1
      rw [hi]
      clear hi
      have hbk := HK2.out
      have c0 : W2.cell? ⟨b1, 0, none⟩ = some (.int .i64 (1)) := by rw [hbk.cell]; rfl
      have c1 : W2.cell? ⟨b1, 1, none⟩ = some (.string (bs id)) := by rw [hbk.cell]; rfl
      have c2 : W2.cell? ⟨b1, 2, none⟩ = some (.string (bs eid)) := by rw [hbk.cell]; rfl
      have c3 : W2.cell? ⟨b1, 3, none⟩ = some (.slice y m cc) := by rw [hbk.cell]; rfl
      have c4 : W2.cell? ⟨b1, 4, none⟩ = some (.int .i64 t) := by rw [hbk.cell]; rfl
      have l1 := hbk.lt
      clear hbk
      go_wp2_with fail
      clear c0 c1 c2 c3 c4 l1
      go_ret
      rw [HE.out]
      exact ⟨rfl, HB2.out⟩
    rcases hq : eid == id with _ | _
    · have HE : Hid (formedB ⟨1, id, eid, .slice y m cc, ns, t⟩ = false) := by show _ = _; simp [formedB, hi, hq]
      have hbk := HK1.out
      have c0 : W1.cell? ⟨b1, 0, none⟩ = some (.int .i64 (1)) := by rw [hbk.cell]; rfl
      have c1 : W1.cell? ⟨b1, 1, none⟩ = some (.string (bs id)) := by rw [hbk.cell]; rfl
      have c2 : W1.cell? ⟨b1, 2, none⟩ = some (.string (bs eid)) := by rw [hbk.cell]; rfl
      have c3 : W1.cell? ⟨b1, 3, none⟩ = some (.slice y m cc) := by rw [hbk.cell]; rfl
      have c4 : W1.cell? ⟨b1, 4, none⟩ = some (.int .i64 t) := by rw [hbk.cell]; rfl
      have l1 := hbk.lt
      clear hbk
      go_enter Tryz.func29, Tryz.ntmps29
      go_upto_region 1 with fail
      rw [← hW1, ← hb1]
      clear hW1 hb1
      go_wp2_with fail
      go_at_call 47
      refine HId.out.mono ?_
      rintro e W2 ⟨rfl, hb⟩
      have HB2 : Hid (Below w.heap.size w W2) := HB1.out.trans (hb.mono HB1.out.size)
      have HK2 := Lib.hid (HK1.out.below hb)
      clear hb HId
      clear c0 c1 c2 c3 c4 l1
      rw [hi]
      clear hi
      have hbk := HK2.out
      have c0 : W2.cell? ⟨b1, 0, none⟩ = some (.int .i64 (1)) := by rw [hbk.cell]; rfl
      have c1 : W2.cell? ⟨b1, 1, none⟩ = some (.string (bs id)) := by rw [hbk.cell]; rfl
      have c2 : W2.cell? ⟨b1, 2, none⟩ = some (.string (bs eid)) := by rw [hbk.cell]; rfl
      have c3 : W2.cell? ⟨b1, 3, none⟩ = some (.slice y m cc) := by rw [hbk.cell]; rfl
      have c4 : W2.cell? ⟨b1, 4, none⟩ = some (.int .i64 t) := by rw [hbk.cell]; rfl
      have l1 := hbk.lt
      clear hbk
      go_wp2_with fail
      clear c0 c1 c2 c3 c4 l1
      go_ret
      rw [HE.out]
      exact ⟨rfl, HB2.out⟩
    rcases hp : propB eid ns with _ | _
    · have HE : Hid (formedB ⟨1, id, eid, .slice y m cc, ns, t⟩ = false) := by show _ = _; simp [formedB, hi, hp]
      have HP := Lib.hid hp
      clear hp
      have hbk := HK1.out
      have c0 : W1.cell? ⟨b1, 0, none⟩ = some (.int .i64 (1)) := by rw [hbk.cell]; rfl
      have c1 : W1.cell? ⟨b1, 1, none⟩ = some (.string (bs id)) := by rw [hbk.cell]; rfl
      have c2 : W1.cell? ⟨b1, 2, none⟩ = some (.string (bs eid)) := by rw [hbk.cell]; rfl
      have c3 : W1.cell? ⟨b1, 3, none⟩ = some (.slice y m cc) := by rw [hbk.cell]; rfl
      have c4 : W1.cell? ⟨b1, 4, none⟩ = some (.int .i64 t) := by rw [hbk.cell]; rfl
      have l1 := hbk.lt
      clear hbk
      go_enter Tryz.func29, Tryz.ntmps29
      go_upto_region 1 with fail
      rw [← hW1, ← hb1]
      clear hW1 hb1
      go_wp2_with fail
      go_at_call 47
      refine HId.out.mono ?_
      rintro e W2 ⟨rfl, hb⟩
      have HB2 : Hid (Below w.heap.size w W2) := HB1.out.trans (hb.mono HB1.out.size)
      have HK2 := Lib.hid (HK1.out.below hb)
      clear hb HId
      clear c0 c1 c2 c3 c4 l1
      rw [hi]
      clear hi
      have hbk := HK2.out
      have c0 : W2.cell? ⟨b1, 0, none⟩ = some (.int .i64 (1)) := by rw [hbk.cell]; rfl
      have c1 : W2.cell? ⟨b1, 1, none⟩ = some (.string (bs id)) := by rw [hbk.cell]; rfl
      have c2 : W2.cell? ⟨b1, 2, none⟩ = some (.string (bs eid)) := by rw [hbk.cell]; rfl
      have c3 : W2.cell? ⟨b1, 3, none⟩ = some (.slice y m cc) := by rw [hbk.cell]; rfl
      have c4 : W2.cell? ⟨b1, 4, none⟩ = some (.int .i64 t) := by rw [hbk.cell]; rfl
      have l1 := hbk.lt
      clear hbk
      go_wp2_with fail
      clear c0 c1 c2 c3 c4 l1
      go_at_call 31
      refine (HPr.out W2 HB2.out).mono ?_
      rintro e W3 ⟨rfl, hb⟩
      have HB3 : Hid (Below w.heap.size w W3) := HB2.out.trans (hb.mono HB2.out.size)
      have HK3 := Lib.hid (HK2.out.below hb)
      clear hb
      rw [HP.out]
      have hbk := HK3.out
      have c0 : W3.cell? ⟨b1, 0, none⟩ = some (.int .i64 (1)) := by rw [hbk.cell]; rfl
      have c1 : W3.cell? ⟨b1, 1, none⟩ = some (.string (bs id)) := by rw [hbk.cell]; rfl
      have c2 : W3.cell? ⟨b1, 2, none⟩ = some (.string (bs eid)) := by rw [hbk.cell]; rfl
      have c3 : W3.cell? ⟨b1, 3, none⟩ = some (.slice y m cc) := by rw [hbk.cell]; rfl
      have c4 : W3.cell? ⟨b1, 4, none⟩ = some (.int .i64 t) := by rw [hbk.cell]; rfl
      have l1 := hbk.lt
      clear hbk
      go_wp2_with fail
      clear c0 c1 c2 c3 c4 l1
      go_ret
      rw [HE.out]
      exact ⟨rfl, HB3.out⟩
    rcases hz : instB t with _ | _
    · have HE : Hid (formedB ⟨1, id, eid, .slice y m cc, ns, t⟩ = false) := by show _ = _; simp [formedB, hi, hq, hp, hz]
      have HZ := Lib.hid hz
      clear hz
      have HP := Lib.hid hp
      clear hp
      have hbk := HK1.out
      have c0 : W1.cell? ⟨b1, 0, none⟩ = some (.int .i64 (1)) := by rw [hbk.cell]; rfl
      have c1 : W1.cell? ⟨b1, 1, none⟩ = some (.string (bs id)) := by rw [hbk.cell]; rfl
      have c2 : W1.cell? ⟨b1, 2, none⟩ = some (.string (bs eid)) := by rw [hbk.cell]; rfl
      have c3 : W1.cell? ⟨b1, 3, none⟩ = some (.slice y m cc) := by rw [hbk.cell]; rfl
      have c4 : W1.cell? ⟨b1, 4, none⟩ = some (.int .i64 t) := by rw [hbk.cell]; rfl
      have l1 := hbk.lt
      clear hbk
      go_enter Tryz.func29, Tryz.ntmps29
      go_upto_region 1 with fail
      rw [← hW1, ← hb1]
      clear hW1 hb1
      go_wp2_with fail
      go_at_call 47
      refine HId.out.mono ?_
      rintro e W2 ⟨rfl, hb⟩
      have HB2 : Hid (Below w.heap.size w W2) := HB1.out.trans (hb.mono HB1.out.size)
      have HK2 := Lib.hid (HK1.out.below hb)
      clear hb HId
      clear c0 c1 c2 c3 c4 l1
      rw [hi]
      clear hi
      have hbk := HK2.out
      have c0 : W2.cell? ⟨b1, 0, none⟩ = some (.int .i64 (1)) := by rw [hbk.cell]; rfl
      have c1 : W2.cell? ⟨b1, 1, none⟩ = some (.string (bs id)) := by rw [hbk.cell]; rfl
      have c2 : W2.cell? ⟨b1, 2, none⟩ = some (.string (bs eid)) := by rw [hbk.cell]; rfl
      have c3 : W2.cell? ⟨b1, 3, none⟩ = some (.slice y m cc) := by rw [hbk.cell]; rfl
      have c4 : W2.cell? ⟨b1, 4, none⟩ = some (.int .i64 t) := by rw [hbk.cell]; rfl
      have l1 := hbk.lt
      clear hbk
      go_wp2_with fail
      clear c0 c1 c2 c3 c4 l1
      go_at_call 31
      refine (HPr.out W2 HB2.out).mono ?_
      rintro e W3 ⟨rfl, hb⟩
      have HB3 : Hid (Below w.heap.size w W3) := HB2.out.trans (hb.mono HB2.out.size)
      have HK3 := Lib.hid (HK2.out.below hb)
      clear hb
      rw [HP.out]
      have hbk := HK3.out
      have c0 : W3.cell? ⟨b1, 0, none⟩ = some (.int .i64 (1)) := by rw [hbk.cell]; rfl
      have c1 : W3.cell? ⟨b1, 1, none⟩ = some (.string (bs id)) := by rw [hbk.cell]; rfl
      have c2 : W3.cell? ⟨b1, 2, none⟩ = some (.string (bs eid)) := by rw [hbk.cell]; rfl
      have c3 : W3.cell? ⟨b1, 3, none⟩ = some (.slice y m cc) := by rw [hbk.cell]; rfl
      have c4 : W3.cell? ⟨b1, 4, none⟩ = some (.int .i64 t) := by rw [hbk.cell]; rfl
      have l1 := hbk.lt
      clear hbk
      go_wp2_with fail
      go_at_call 18
      refine (inst_c t W3 (HStd.out.below HB3.out)).mono ?_
      rintro e W4 ⟨rfl, hb⟩
      have HB4 : Hid (Below w.heap.size w W4) := HB3.out.trans (hb.mono HB3.out.size)
      clear hb
      rw [HZ.out]
      go_wp2_with fail
      clear c0 c1 c2 c3 c4 l1
      go_ret
      rw [HE.out]
      exact ⟨rfl, HB4.out⟩
    · have HE : Hid (formedB ⟨1, id, eid, .slice y m cc, ns, t⟩ = true) := by show _ = _; simp [formedB, hi, hq, hp, hz]
      have HZ := Lib.hid hz
      clear hz
      have HP := Lib.hid hp
      clear hp
      have hbk := HK1.out
      have c0 : W1.cell? ⟨b1, 0, none⟩ = some (.int .i64 (1)) := by rw [hbk.cell]; rfl
      have c1 : W1.cell? ⟨b1, 1, none⟩ = some (.string (bs id)) := by rw [hbk.cell]; rfl
      have c2 : W1.cell? ⟨b1, 2, none⟩ = some (.string (bs eid)) := by rw [hbk.cell]; rfl
      have c3 : W1.cell? ⟨b1, 3, none⟩ = some (.slice y m cc) := by rw [hbk.cell]; rfl
      have c4 : W1.cell? ⟨b1, 4, none⟩ = some (.int .i64 t) := by rw [hbk.cell]; rfl
      have l1 := hbk.lt
      clear hbk
      go_enter Tryz.func29, Tryz.ntmps29
      go_upto_region 1 with fail
      rw [← hW1, ← hb1]
      clear hW1 hb1
      go_wp2_with fail
      go_at_call 47
      refine HId.out.mono ?_
      rintro e W2 ⟨rfl, hb⟩
      have HB2 : Hid (Below w.heap.size w W2) := HB1.out.trans (hb.mono HB1.out.size)
      have HK2 := Lib.hid (HK1.out.below hb)
      clear hb HId
      clear c0 c1 c2 c3 c4 l1
      rw [hi]
      clear hi
      have hbk := HK2.out
      have c0 : W2.cell? ⟨b1, 0, none⟩ = some (.int .i64 (1)) := by rw [hbk.cell]; rfl
      have c1 : W2.cell? ⟨b1, 1, none⟩ = some (.string (bs id)) := by rw [hbk.cell]; rfl
      have c2 : W2.cell? ⟨b1, 2, none⟩ = some (.string (bs eid)) := by rw [hbk.cell]; rfl
      have c3 : W2.cell? ⟨b1, 3, none⟩ = some (.slice y m cc) := by rw [hbk.cell]; rfl
      have c4 : W2.cell? ⟨b1, 4, none⟩ = some (.int .i64 t) := by rw [hbk.cell]; rfl
      have l1 := hbk.lt
      clear hbk
      go_wp2_with fail
      clear c0 c1 c2 c3 c4 l1
      go_at_call 31
      refine (HPr.out W2 HB2.out).mono ?_
      rintro e W3 ⟨rfl, hb⟩
      have HB3 : Hid (Below w.heap.size w W3) := HB2.out.trans (hb.mono HB2.out.size)
      have HK3 := Lib.hid (HK2.out.below hb)
      clear hb
      rw [HP.out]
      have hbk := HK3.out
      have c0 : W3.cell? ⟨b1, 0, none⟩ = some (.int .i64 (1)) := by rw [hbk.cell]; rfl
      have c1 : W3.cell? ⟨b1, 1, none⟩ = some (.string (bs id)) := by rw [hbk.cell]; rfl
      have c2 : W3.cell? ⟨b1, 2, none⟩ = some (.string (bs eid)) := by rw [hbk.cell]; rfl
      have c3 : W3.cell? ⟨b1, 3, none⟩ = some (.slice y m cc) := by rw [hbk.cell]; rfl
      have c4 : W3.cell? ⟨b1, 4, none⟩ = some (.int .i64 t) := by rw [hbk.cell]; rfl
      have l1 := hbk.lt
      clear hbk
      go_wp2_with fail
      go_at_call 18
      refine (inst_c t W3 (HStd.out.below HB3.out)).mono ?_
      rintro e W4 ⟨rfl, hb⟩
      have HB4 : Hid (Below w.heap.size w W4) := HB3.out.trans (hb.mono HB3.out.size)
      clear hb
      rw [HZ.out]
      go_wp2_with fail
      clear c0 c1 c2 c3 c4 l1
      go_ret
      rw [HE.out]
      exact ⟨rfl, HB4.out⟩
  by_cases k2 : k = 2
  · subst k2
    rcases hi : identB id with _ | _
    · have HE : Hid (formedB ⟨2, id, eid, .slice y m cc, ns, t⟩ = false) := by show _ = _; simp [formedB, hi]
      have hbk := HK1.out
      have c0 : W1.cell? ⟨b1, 0, none⟩ = some (.int .i64 (2)) := by rw [hbk.cell]; rfl
      have c1 : W1.cell? ⟨b1, 1, none⟩ = some (.string (bs id)) := by rw [hbk.cell]; rfl
      have c2 : W1.cell? ⟨b1, 2, none⟩ = some (.string (bs eid)) := by rw [hbk.cell]; rfl
      have c3 : W1.cell? ⟨b1, 3, none⟩ = some (.slice y m cc) := by rw [hbk.cell]; rfl
      have c4 : W1.cell? ⟨b1, 4, none⟩ = some (.int .i64 t) := by rw [hbk.cell]; rfl
      have l1 := hbk.lt
      clear hbk
      go_enter Tryz.func29, Tryz.ntmps29
      go_upto_region 1 with fail
      rw [← hW1, ← hb1]
      clear hW1 hb1
      go_wp2_with fail
      go_at_call 47
      refine HId.out.mono ?_
      rintro e W2 ⟨rfl, hb⟩
      have HB2 : Hid (Below w.heap.size w W2) := HB1.out.trans (hb.mono HB1.out.size)
      have HK2 := Lib.hid (HK1.out.below hb)
      clear hb HId
      clear c0 c1 c2 c3 c4 l1
      rw [hi]
      clear hi
      have hbk := HK2.out
      have c0 : W2.cell? ⟨b1, 0, none⟩ = some (.int .i64 (2)) := by rw [hbk.cell]; rfl
      have c1 : W2.cell? ⟨b1, 1, none⟩ = some (.string (bs id)) := by rw [hbk.cell]; rfl
      have c2 : W2.cell? ⟨b1, 2, none⟩ = some (.string (bs eid)) := by rw [hbk.cell]; rfl
      have c3 : W2.cell? ⟨b1, 3, none⟩ = some (.slice y m cc) := by rw [hbk.cell]; rfl
      have c4 : W2.cell? ⟨b1, 4, none⟩ = some (.int .i64 t) := by rw [hbk.cell]; rfl
      have l1 := hbk.lt
      clear hbk
      go_wp2_with fail
      clear c0 c1 c2 c3 c4 l1
      go_ret
      rw [HE.out]
      exact ⟨rfl, HB2.out⟩
    rcases hq : eid == [] with _ | _
    · have HE : Hid (formedB ⟨2, id, eid, .slice y m cc, ns, t⟩ = false) := by show _ = _; simp [formedB, hi, hq]
      have hbk := HK1.out
      have c0 : W1.cell? ⟨b1, 0, none⟩ = some (.int .i64 (2)) := by rw [hbk.cell]; rfl
      have c1 : W1.cell? ⟨b1, 1, none⟩ = some (.string (bs id)) := by rw [hbk.cell]; rfl
      have c2 : W1.cell? ⟨b1, 2, none⟩ = some (.string (bs eid)) := by rw [hbk.cell]; rfl
      have c3 : W1.cell? ⟨b1, 3, none⟩ = some (.slice y m cc) := by rw [hbk.cell]; rfl
      have c4 : W1.cell? ⟨b1, 4, none⟩ = some (.int .i64 t) := by rw [hbk.cell]; rfl
      have l1 := hbk.lt
      clear hbk
      go_enter Tryz.func29, Tryz.ntmps29
      go_upto_region 1 with fail
      rw [← hW1, ← hb1]
      clear hW1 hb1
      go_wp2_with fail
      go_at_call 47
      refine HId.out.mono ?_
      rintro e W2 ⟨rfl, hb⟩
      have HB2 : Hid (Below w.heap.size w W2) := HB1.out.trans (hb.mono HB1.out.size)
      have HK2 := Lib.hid (HK1.out.below hb)
      clear hb HId
      clear c0 c1 c2 c3 c4 l1
      rw [hi]
      clear hi
      have hbk := HK2.out
      have c0 : W2.cell? ⟨b1, 0, none⟩ = some (.int .i64 (2)) := by rw [hbk.cell]; rfl
      have c1 : W2.cell? ⟨b1, 1, none⟩ = some (.string (bs id)) := by rw [hbk.cell]; rfl
      have c2 : W2.cell? ⟨b1, 2, none⟩ = some (.string (bs eid)) := by rw [hbk.cell]; rfl
      have c3 : W2.cell? ⟨b1, 3, none⟩ = some (.slice y m cc) := by rw [hbk.cell]; rfl
      have c4 : W2.cell? ⟨b1, 4, none⟩ = some (.int .i64 t) := by rw [hbk.cell]; rfl
      have l1 := hbk.lt
      clear hbk
      go_wp2_with fail
      clear c0 c1 c2 c3 c4 l1
      go_ret
      rw [HE.out]
      exact ⟨rfl, HB2.out⟩
    by_cases hm0 : m = 0
    rotate_left
    · have hl : (ns.length == 0) = false := by rw [← HM.out]; simpa using hm0
      have HE : Hid (formedB ⟨2, id, eid, .slice y m cc, ns, t⟩ = false) := by show _ = _; simp only [formedB, hi, hl]; simp
      have hp : ((m : Nat) : Int) > 0 := by omega
      have hbk := HK1.out
      have c0 : W1.cell? ⟨b1, 0, none⟩ = some (.int .i64 (2)) := by rw [hbk.cell]; rfl
      have c1 : W1.cell? ⟨b1, 1, none⟩ = some (.string (bs id)) := by rw [hbk.cell]; rfl
      have c2 : W1.cell? ⟨b1, 2, none⟩ = some (.string (bs eid)) := by rw [hbk.cell]; rfl
      have c3 : W1.cell? ⟨b1, 3, none⟩ = some (.slice y m cc) := by rw [hbk.cell]; rfl
      have c4 : W1.cell? ⟨b1, 4, none⟩ = some (.int .i64 t) := by rw [hbk.cell]; rfl
      have l1 := hbk.lt
      clear hbk
      go_enter Tryz.func29, Tryz.ntmps29
      go_upto_region 1 with fail
      rw [← hW1, ← hb1]
      clear hW1 hb1
      go_wp2_with fail
      go_at_call 47
      refine HId.out.mono ?_
      rintro e W2 ⟨rfl, hb⟩
      have HB2 : Hid (Below w.heap.size w W2) := HB1.out.trans (hb.mono HB1.out.size)
      have HK2 := Lib.hid (HK1.out.below hb)
      clear hb HId
      clear c0 c1 c2 c3 c4 l1
      rw [hi]
      clear hi
      have hbk := HK2.out
      have c0 : W2.cell? ⟨b1, 0, none⟩ = some (.int .i64 (2)) := by rw [hbk.cell]; rfl
      have c1 : W2.cell? ⟨b1, 1, none⟩ = some (.string (bs id)) := by rw [hbk.cell]; rfl
      have c2 : W2.cell? ⟨b1, 2, none⟩ = some (.string (bs eid)) := by rw [hbk.cell]; rfl
      have c3 : W2.cell? ⟨b1, 3, none⟩ = some (.slice y m cc) := by rw [hbk.cell]; rfl
      have c4 : W2.cell? ⟨b1, 4, none⟩ = some (.int .i64 t) := by rw [hbk.cell]; rfl
      have l1 := hbk.lt
      clear hbk
      go_wp2_with fail
      clear c0 c1 c2 c3 c4 l1
      go_ret
      rw [HE.out]
      exact ⟨rfl, HB2.out⟩
    have hl : (ns.length == 0) = true := by rw [← HM.out]; simpa using hm0
    have hp : ¬ ((m : Nat) : Int) > 0 := by omega
    clear hm0
    rcases hz : instB t with _ | _
    · have HE : Hid (formedB ⟨2, id, eid, .slice y m cc, ns, t⟩ = false) := by show _ = _; simp only [formedB, hi, hq, hl, hz]; simp
      clear hl
      have HZ := Lib.hid hz
      clear hz
      have hbk := HK1.out
      have c0 : W1.cell? ⟨b1, 0, none⟩ = some (.int .i64 (2)) := by rw [hbk.cell]; rfl
      have c1 : W1.cell? ⟨b1, 1, none⟩ = some (.string (bs id)) := by rw [hbk.cell]; rfl
      have c2 : W1.cell? ⟨b1, 2, none⟩ = some (.string (bs eid)) := by rw [hbk.cell]; rfl
      have c3 : W1.cell? ⟨b1, 3, none⟩ = some (.slice y m cc) := by rw [hbk.cell]; rfl
      have c4 : W1.cell? ⟨b1, 4, none⟩ = some (.int .i64 t) := by rw [hbk.cell]; rfl
      have l1 := hbk.lt
      clear hbk
      go_enter Tryz.func29, Tryz.ntmps29
      go_upto_region 1 with fail
      rw [← hW1, ← hb1]
      clear hW1 hb1
      go_wp2_with fail
      go_at_call 47
      refine HId.out.mono ?_
      rintro e W2 ⟨rfl, hb⟩
      have HB2 : Hid (Below w.heap.size w W2) := HB1.out.trans (hb.mono HB1.out.size)
      have HK2 := Lib.hid (HK1.out.below hb)
      clear hb HId
      clear c0 c1 c2 c3 c4 l1
      rw [hi]
      clear hi
      have hbk := HK2.out
      have c0 : W2.cell? ⟨b1, 0, none⟩ = some (.int .i64 (2)) := by rw [hbk.cell]; rfl
      have c1 : W2.cell? ⟨b1, 1, none⟩ = some (.string (bs id)) := by rw [hbk.cell]; rfl
      have c2 : W2.cell? ⟨b1, 2, none⟩ = some (.string (bs eid)) := by rw [hbk.cell]; rfl
      have c3 : W2.cell? ⟨b1, 3, none⟩ = some (.slice y m cc) := by rw [hbk.cell]; rfl
      have c4 : W2.cell? ⟨b1, 4, none⟩ = some (.int .i64 t) := by rw [hbk.cell]; rfl
      have l1 := hbk.lt
      clear hbk
      go_wp2_with fail
      go_at_call 18
      refine (inst_c t W2 (HStd.out.below HB2.out)).mono ?_
      rintro e W4 ⟨rfl, hb⟩
      have HB4 : Hid (Below w.heap.size w W4) := HB2.out.trans (hb.mono HB2.out.size)
      clear hb
      rw [HZ.out]
      go_wp2_with fail
      clear c0 c1 c2 c3 c4 l1
      go_ret
      rw [HE.out]
      exact ⟨rfl, HB4.out⟩
    · have HE : Hid (formedB ⟨2, id, eid, .slice y m cc, ns, t⟩ = true) := by show _ = _; simp only [formedB, hi, hq, hl, hz]; simp
      clear hl
      have HZ := Lib.hid hz
      clear hz
      have hbk := HK1.out
      have c0 : W1.cell? ⟨b1, 0, none⟩ = some (.int .i64 (2)) := by rw [hbk.cell]; rfl
      have c1 : W1.cell? ⟨b1, 1, none⟩ = some (.string (bs id)) := by rw [hbk.cell]; rfl
      have c2 : W1.cell? ⟨b1, 2, none⟩ = some (.string (bs eid)) := by rw [hbk.cell]; rfl
      have c3 : W1.cell? ⟨b1, 3, none⟩ = some (.slice y m cc) := by rw [hbk.cell]; rfl
      have c4 : W1.cell? ⟨b1, 4, none⟩ = some (.int .i64 t) := by rw [hbk.cell]; rfl
      have l1 := hbk.lt
      clear hbk
      go_enter Tryz.func29, Tryz.ntmps29
      go_upto_region 1 with fail
      rw [← hW1, ← hb1]
      clear hW1 hb1
      go_wp2_with fail
      go_at_call 47
      refine HId.out.mono ?_
      rintro e W2 ⟨rfl, hb⟩
      have HB2 : Hid (Below w.heap.size w W2) := HB1.out.trans (hb.mono HB1.out.size)
      have HK2 := Lib.hid (HK1.out.below hb)
      clear hb HId
      clear c0 c1 c2 c3 c4 l1
      rw [hi]
      clear hi
      have hbk := HK2.out
      have c0 : W2.cell? ⟨b1, 0, none⟩ = some (.int .i64 (2)) := by rw [hbk.cell]; rfl
      have c1 : W2.cell? ⟨b1, 1, none⟩ = some (.string (bs id)) := by rw [hbk.cell]; rfl
      have c2 : W2.cell? ⟨b1, 2, none⟩ = some (.string (bs eid)) := by rw [hbk.cell]; rfl
      have c3 : W2.cell? ⟨b1, 3, none⟩ = some (.slice y m cc) := by rw [hbk.cell]; rfl
      have c4 : W2.cell? ⟨b1, 4, none⟩ = some (.int .i64 t) := by rw [hbk.cell]; rfl
      have l1 := hbk.lt
      clear hbk
      go_wp2_with fail
      go_at_call 18
      refine (inst_c t W2 (HStd.out.below HB2.out)).mono ?_
      rintro e W4 ⟨rfl, hb⟩
      have HB4 : Hid (Below w.heap.size w W4) := HB2.out.trans (hb.mono HB2.out.size)
      clear hb
      rw [HZ.out]
      go_wp2_with fail
      clear c0 c1 c2 c3 c4 l1
      go_ret
      rw [HE.out]
      exact ⟨rfl, HB4.out⟩
  by_cases k3 : k = 3
  · subst k3
    rcases hi : identB id with _ | _
    · have HE : Hid (formedB ⟨3, id, eid, .slice y m cc, ns, t⟩ = false) := by show _ = _; simp [formedB, hi]
      have hbk := HK1.out
      have c0 : W1.cell? ⟨b1, 0, none⟩ = some (.int .i64 (3)) := by rw [hbk.cell]; rfl
      have c1 : W1.cell? ⟨b1, 1, none⟩ = some (.string (bs id)) := by rw [hbk.cell]; rfl
      have c2 : W1.cell? ⟨b1, 2, none⟩ = some (.string (bs eid)) := by rw [hbk.cell]; rfl
      have c3 : W1.cell? ⟨b1, 3, none⟩ = some (.slice y m cc) := by rw [hbk.cell]; rfl
      have c4 : W1.cell? ⟨b1, 4, none⟩ = some (.int .i64 t) := by rw [hbk.cell]; rfl
      have l1 := hbk.lt
      clear hbk
      go_enter Tryz.func29, Tryz.ntmps29
      go_upto_region 1 with fail
      rw [← hW1, ← hb1]
      clear hW1 hb1
      go_wp2_with fail
      go_at_call 47
      refine HId.out.mono ?_
      rintro e W2 ⟨rfl, hb⟩
      have HB2 : Hid (Below w.heap.size w W2) := HB1.out.trans (hb.mono HB1.out.size)
      have HK2 := Lib.hid (HK1.out.below hb)
      clear hb HId
      clear c0 c1 c2 c3 c4 l1
      rw [hi]
      clear hi
      have hbk := HK2.out
      have c0 : W2.cell? ⟨b1, 0, none⟩ = some (.int .i64 (3)) := by rw [hbk.cell]; rfl
      have c1 : W2.cell? ⟨b1, 1, none⟩ = some (.string (bs id)) := by rw [hbk.cell]; rfl
      have c2 : W2.cell? ⟨b1, 2, none⟩ = some (.string (bs eid)) := by rw [hbk.cell]; rfl
      have c3 : W2.cell? ⟨b1, 3, none⟩ = some (.slice y m cc) := by rw [hbk.cell]; rfl
      have c4 : W2.cell? ⟨b1, 4, none⟩ = some (.int .i64 t) := by rw [hbk.cell]; rfl
      have l1 := hbk.lt
      clear hbk
      go_wp2_with fail
      clear c0 c1 c2 c3 c4 l1
      go_ret
      rw [HE.out]
      exact ⟨rfl, HB2.out⟩
    rcases hq : eid == id with _ | _
    · have HE : Hid (formedB ⟨3, id, eid, .slice y m cc, ns, t⟩ = false) := by show _ = _; simp [formedB, hi, hq]
      have hbk := HK1.out
      have c0 : W1.cell? ⟨b1, 0, none⟩ = some (.int .i64 (3)) := by rw [hbk.cell]; rfl
      have c1 : W1.cell? ⟨b1, 1, none⟩ = some (.string (bs id)) := by rw [hbk.cell]; rfl
      have c2 : W1.cell? ⟨b1, 2, none⟩ = some (.string (bs eid)) := by rw [hbk.cell]; rfl
      have c3 : W1.cell? ⟨b1, 3, none⟩ = some (.slice y m cc) := by rw [hbk.cell]; rfl
      have c4 : W1.cell? ⟨b1, 4, none⟩ = some (.int .i64 t) := by rw [hbk.cell]; rfl
      have l1 := hbk.lt
      clear hbk
      go_enter Tryz.func29, Tryz.ntmps29
      go_upto_region 1 with fail
      rw [← hW1, ← hb1]
      clear hW1 hb1
      go_wp2_with fail
      go_at_call 47
      refine HId.out.mono ?_
      rintro e W2 ⟨rfl, hb⟩
      have HB2 : Hid (Below w.heap.size w W2) := HB1.out.trans (hb.mono HB1.out.size)
      have HK2 := Lib.hid (HK1.out.below hb)
      clear hb HId
      clear c0 c1 c2 c3 c4 l1
      rw [hi]
      clear hi
      have hbk := HK2.out
      have c0 : W2.cell? ⟨b1, 0, none⟩ = some (.int .i64 (3)) := by rw [hbk.cell]; rfl
      have c1 : W2.cell? ⟨b1, 1, none⟩ = some (.string (bs id)) := by rw [hbk.cell]; rfl
      have c2 : W2.cell? ⟨b1, 2, none⟩ = some (.string (bs eid)) := by rw [hbk.cell]; rfl
      have c3 : W2.cell? ⟨b1, 3, none⟩ = some (.slice y m cc) := by rw [hbk.cell]; rfl
      have c4 : W2.cell? ⟨b1, 4, none⟩ = some (.int .i64 t) := by rw [hbk.cell]; rfl
      have l1 := hbk.lt
      clear hbk
      go_wp2_with fail
      clear c0 c1 c2 c3 c4 l1
      go_ret
      rw [HE.out]
      exact ⟨rfl, HB2.out⟩
    rcases hp : propB eid ns with _ | _
    · have HE : Hid (formedB ⟨3, id, eid, .slice y m cc, ns, t⟩ = false) := by show _ = _; simp [formedB, hi, hp]
      have HP := Lib.hid hp
      clear hp
      have hbk := HK1.out
      have c0 : W1.cell? ⟨b1, 0, none⟩ = some (.int .i64 (3)) := by rw [hbk.cell]; rfl
      have c1 : W1.cell? ⟨b1, 1, none⟩ = some (.string (bs id)) := by rw [hbk.cell]; rfl
      have c2 : W1.cell? ⟨b1, 2, none⟩ = some (.string (bs eid)) := by rw [hbk.cell]; rfl
      have c3 : W1.cell? ⟨b1, 3, none⟩ = some (.slice y m cc) := by rw [hbk.cell]; rfl
      have c4 : W1.cell? ⟨b1, 4, none⟩ = some (.int .i64 t) := by rw [hbk.cell]; rfl
      have l1 := hbk.lt
      clear hbk
      go_enter Tryz.func29, Tryz.ntmps29
      go_upto_region 1 with fail
      rw [← hW1, ← hb1]
      clear hW1 hb1
      go_wp2_with fail
      go_at_call 47
      refine HId.out.mono ?_
      rintro e W2 ⟨rfl, hb⟩
      have HB2 : Hid (Below w.heap.size w W2) := HB1.out.trans (hb.mono HB1.out.size)
      have HK2 := Lib.hid (HK1.out.below hb)
      clear hb HId
      clear c0 c1 c2 c3 c4 l1
      rw [hi]
      clear hi
      have hbk := HK2.out
      have c0 : W2.cell? ⟨b1, 0, none⟩ = some (.int .i64 (3)) := by rw [hbk.cell]; rfl
      have c1 : W2.cell? ⟨b1, 1, none⟩ = some (.string (bs id)) := by rw [hbk.cell]; rfl
      have c2 : W2.cell? ⟨b1, 2, none⟩ = some (.string (bs eid)) := by rw [hbk.cell]; rfl
      have c3 : W2.cell? ⟨b1, 3, none⟩ = some (.slice y m cc) := by rw [hbk.cell]; rfl
      have c4 : W2.cell? ⟨b1, 4, none⟩ = some (.int .i64 t) := by rw [hbk.cell]; rfl
      have l1 := hbk.lt
      clear hbk
      go_wp2_with fail
      clear c0 c1 c2 c3 c4 l1
      go_at_call 31
      refine (HPr.out W2 HB2.out).mono ?_
      rintro e W3 ⟨rfl, hb⟩
      have HB3 : Hid (Below w.heap.size w W3) := HB2.out.trans (hb.mono HB2.out.size)
      have HK3 := Lib.hid (HK2.out.below hb)
      clear hb
      rw [HP.out]
      have hbk := HK3.out
      have c0 : W3.cell? ⟨b1, 0, none⟩ = some (.int .i64 (3)) := by rw [hbk.cell]; rfl
      have c1 : W3.cell? ⟨b1, 1, none⟩ = some (.string (bs id)) := by rw [hbk.cell]; rfl
      have c2 : W3.cell? ⟨b1, 2, none⟩ = some (.string (bs eid)) := by rw [hbk.cell]; rfl
      have c3 : W3.cell? ⟨b1, 3, none⟩ = some (.slice y m cc) := by rw [hbk.cell]; rfl
      have c4 : W3.cell? ⟨b1, 4, none⟩ = some (.int .i64 t) := by rw [hbk.cell]; rfl
      have l1 := hbk.lt
      clear hbk
      go_wp2_with fail
      clear c0 c1 c2 c3 c4 l1
      go_ret
      rw [HE.out]
      exact ⟨rfl, HB3.out⟩
    rcases hz : t == 0 with _ | _
    · have HE : Hid (formedB ⟨3, id, eid, .slice y m cc, ns, t⟩ = false) := by show _ = _; simp [formedB, hi, hq, hp, hz]
      have HP := Lib.hid hp
      clear hp
      have hbk := HK1.out
      have c0 : W1.cell? ⟨b1, 0, none⟩ = some (.int .i64 (3)) := by rw [hbk.cell]; rfl
      have c1 : W1.cell? ⟨b1, 1, none⟩ = some (.string (bs id)) := by rw [hbk.cell]; rfl
      have c2 : W1.cell? ⟨b1, 2, none⟩ = some (.string (bs eid)) := by rw [hbk.cell]; rfl
      have c3 : W1.cell? ⟨b1, 3, none⟩ = some (.slice y m cc) := by rw [hbk.cell]; rfl
      have c4 : W1.cell? ⟨b1, 4, none⟩ = some (.int .i64 t) := by rw [hbk.cell]; rfl
      have l1 := hbk.lt
      clear hbk
      go_enter Tryz.func29, Tryz.ntmps29
      go_upto_region 1 with fail
      rw [← hW1, ← hb1]
      clear hW1 hb1
      go_wp2_with fail
      go_at_call 47
      refine HId.out.mono ?_
      rintro e W2 ⟨rfl, hb⟩
      have HB2 : Hid (Below w.heap.size w W2) := HB1.out.trans (hb.mono HB1.out.size)
      have HK2 := Lib.hid (HK1.out.below hb)
      clear hb HId
      clear c0 c1 c2 c3 c4 l1
      rw [hi]
      clear hi
      have hbk := HK2.out
      have c0 : W2.cell? ⟨b1, 0, none⟩ = some (.int .i64 (3)) := by rw [hbk.cell]; rfl
      have c1 : W2.cell? ⟨b1, 1, none⟩ = some (.string (bs id)) := by rw [hbk.cell]; rfl
      have c2 : W2.cell? ⟨b1, 2, none⟩ = some (.string (bs eid)) := by rw [hbk.cell]; rfl
      have c3 : W2.cell? ⟨b1, 3, none⟩ = some (.slice y m cc) := by rw [hbk.cell]; rfl
      have c4 : W2.cell? ⟨b1, 4, none⟩ = some (.int .i64 t) := by rw [hbk.cell]; rfl
      have l1 := hbk.lt
      clear hbk
      go_wp2_with fail
      clear c0 c1 c2 c3 c4 l1
      go_at_call 31
      refine (HPr.out W2 HB2.out).mono ?_
      rintro e W3 ⟨rfl, hb⟩
      have HB3 : Hid (Below w.heap.size w W3) := HB2.out.trans (hb.mono HB2.out.size)
      have HK3 := Lib.hid (HK2.out.below hb)
      clear hb
      rw [HP.out]
      have hbk := HK3.out
      have c0 : W3.cell? ⟨b1, 0, none⟩ = some (.int .i64 (3)) := by rw [hbk.cell]; rfl
      have c1 : W3.cell? ⟨b1, 1, none⟩ = some (.string (bs id)) := by rw [hbk.cell]; rfl
      have c2 : W3.cell? ⟨b1, 2, none⟩ = some (.string (bs eid)) := by rw [hbk.cell]; rfl
      have c3 : W3.cell? ⟨b1, 3, none⟩ = some (.slice y m cc) := by rw [hbk.cell]; rfl
      have c4 : W3.cell? ⟨b1, 4, none⟩ = some (.int .i64 t) := by rw [hbk.cell]; rfl
      have l1 := hbk.lt
      clear hbk
      go_wp2_with fail
      clear c0 c1 c2 c3 c4 l1
      go_ret
      rw [HE.out]
      exact ⟨rfl, HB3.out⟩
    · have HE : Hid (formedB ⟨3, id, eid, .slice y m cc, ns, t⟩ = true) := by show _ = _; simp [formedB, hi, hq, hp, hz]
      have HP := Lib.hid hp
      clear hp
      have hbk := HK1.out
      have c0 : W1.cell? ⟨b1, 0, none⟩ = some (.int .i64 (3)) := by rw [hbk.cell]; rfl
      have c1 : W1.cell? ⟨b1, 1, none⟩ = some (.string (bs id)) := by rw [hbk.cell]; rfl
      have c2 : W1.cell? ⟨b1, 2, none⟩ = some (.string (bs eid)) := by rw [hbk.cell]; rfl
      have c3 : W1.cell? ⟨b1, 3, none⟩ = some (.slice y m cc) := by rw [hbk.cell]; rfl
      have c4 : W1.cell? ⟨b1, 4, none⟩ = some (.int .i64 t) := by rw [hbk.cell]; rfl
      have l1 := hbk.lt
      clear hbk
      go_enter Tryz.func29, Tryz.ntmps29
      go_upto_region 1 with fail
      rw [← hW1, ← hb1]
      clear hW1 hb1
      go_wp2_with fail
      go_at_call 47
      refine HId.out.mono ?_
      rintro e W2 ⟨rfl, hb⟩
      have HB2 : Hid (Below w.heap.size w W2) := HB1.out.trans (hb.mono HB1.out.size)
      have HK2 := Lib.hid (HK1.out.below hb)
      clear hb HId
      clear c0 c1 c2 c3 c4 l1
      rw [hi]
      clear hi
      have hbk := HK2.out
      have c0 : W2.cell? ⟨b1, 0, none⟩ = some (.int .i64 (3)) := by rw [hbk.cell]; rfl
      have c1 : W2.cell? ⟨b1, 1, none⟩ = some (.string (bs id)) := by rw [hbk.cell]; rfl
      have c2 : W2.cell? ⟨b1, 2, none⟩ = some (.string (bs eid)) := by rw [hbk.cell]; rfl
      have c3 : W2.cell? ⟨b1, 3, none⟩ = some (.slice y m cc) := by rw [hbk.cell]; rfl
      have c4 : W2.cell? ⟨b1, 4, none⟩ = some (.int .i64 t) := by rw [hbk.cell]; rfl
      have l1 := hbk.lt
      clear hbk
      go_wp2_with fail
      clear c0 c1 c2 c3 c4 l1
      go_at_call 31
      refine (HPr.out W2 HB2.out).mono ?_
      rintro e W3 ⟨rfl, hb⟩
      have HB3 : Hid (Below w.heap.size w W3) := HB2.out.trans (hb.mono HB2.out.size)
      have HK3 := Lib.hid (HK2.out.below hb)
      clear hb
      rw [HP.out]
      have hbk := HK3.out
      have c0 : W3.cell? ⟨b1, 0, none⟩ = some (.int .i64 (3)) := by rw [hbk.cell]; rfl
      have c1 : W3.cell? ⟨b1, 1, none⟩ = some (.string (bs id)) := by rw [hbk.cell]; rfl
      have c2 : W3.cell? ⟨b1, 2, none⟩ = some (.string (bs eid)) := by rw [hbk.cell]; rfl
      have c3 : W3.cell? ⟨b1, 3, none⟩ = some (.slice y m cc) := by rw [hbk.cell]; rfl
      have c4 : W3.cell? ⟨b1, 4, none⟩ = some (.int .i64 t) := by rw [hbk.cell]; rfl
      have l1 := hbk.lt
      clear hbk
      go_wp2_with fail
      clear c0 c1 c2 c3 c4 l1
      go_ret
      rw [HE.out]
      exact ⟨rfl, HB3.out⟩
  by_cases k4 : k = 4
  · subst k4
    rcases hi : identB id with _ | _
    · have HE : Hid (formedB ⟨4, id, eid, .slice y m cc, ns, t⟩ = false) := by show _ = _; simp [formedB, hi]
      have hbk := HK1.out
      have c0 : W1.cell? ⟨b1, 0, none⟩ = some (.int .i64 (4)) := by rw [hbk.cell]; rfl
      have c1 : W1.cell? ⟨b1, 1, none⟩ = some (.string (bs id)) := by rw [hbk.cell]; rfl
      have c2 : W1.cell? ⟨b1, 2, none⟩ = some (.string (bs eid)) := by rw [hbk.cell]; rfl
      have c3 : W1.cell? ⟨b1, 3, none⟩ = some (.slice y m cc) := by rw [hbk.cell]; rfl
      have c4 : W1.cell? ⟨b1, 4, none⟩ = some (.int .i64 t) := by rw [hbk.cell]; rfl
      have l1 := hbk.lt
      clear hbk
      go_enter Tryz.func29, Tryz.ntmps29
      go_upto_region 1 with fail
      rw [← hW1, ← hb1]
      clear hW1 hb1
      go_wp2_with fail
      go_at_call 47
      refine HId.out.mono ?_
      rintro e W2 ⟨rfl, hb⟩
      have HB2 : Hid (Below w.heap.size w W2) := HB1.out.trans (hb.mono HB1.out.size)
      have HK2 := Lib.hid (HK1.out.below hb)
      clear hb HId
      clear c0 c1 c2 c3 c4 l1
      rw [hi]
      clear hi
      have hbk := HK2.out
      have c0 : W2.cell? ⟨b1, 0, none⟩ = some (.int .i64 (4)) := by rw [hbk.cell]; rfl
      have c1 : W2.cell? ⟨b1, 1, none⟩ = some (.string (bs id)) := by rw [hbk.cell]; rfl
      have c2 : W2.cell? ⟨b1, 2, none⟩ = some (.string (bs eid)) := by rw [hbk.cell]; rfl
      have c3 : W2.cell? ⟨b1, 3, none⟩ = some (.slice y m cc) := by rw [hbk.cell]; rfl
      have c4 : W2.cell? ⟨b1, 4, none⟩ = some (.int .i64 t) := by rw [hbk.cell]; rfl
      have l1 := hbk.lt
      clear hbk
      go_wp2_with fail
      clear c0 c1 c2 c3 c4 l1
      go_ret
      rw [HE.out]
      exact ⟨rfl, HB2.out⟩
    rcases hq : eid == [] with _ | _
    · have HE : Hid (formedB ⟨4, id, eid, .slice y m cc, ns, t⟩ = false) := by show _ = _; simp [formedB, hi, hq]
      have hbk := HK1.out
      have c0 : W1.cell? ⟨b1, 0, none⟩ = some (.int .i64 (4)) := by rw [hbk.cell]; rfl
      have c1 : W1.cell? ⟨b1, 1, none⟩ = some (.string (bs id)) := by rw [hbk.cell]; rfl
      have c2 : W1.cell? ⟨b1, 2, none⟩ = some (.string (bs eid)) := by rw [hbk.cell]; rfl
      have c3 : W1.cell? ⟨b1, 3, none⟩ = some (.slice y m cc) := by rw [hbk.cell]; rfl
      have c4 : W1.cell? ⟨b1, 4, none⟩ = some (.int .i64 t) := by rw [hbk.cell]; rfl
      have l1 := hbk.lt
      clear hbk
      go_enter Tryz.func29, Tryz.ntmps29
      go_upto_region 1 with fail
      rw [← hW1, ← hb1]
      clear hW1 hb1
      go_wp2_with fail
      go_at_call 47
      refine HId.out.mono ?_
      rintro e W2 ⟨rfl, hb⟩
      have HB2 : Hid (Below w.heap.size w W2) := HB1.out.trans (hb.mono HB1.out.size)
      have HK2 := Lib.hid (HK1.out.below hb)
      clear hb HId
      clear c0 c1 c2 c3 c4 l1
      rw [hi]
      clear hi
      have hbk := HK2.out
      have c0 : W2.cell? ⟨b1, 0, none⟩ = some (.int .i64 (4)) := by rw [hbk.cell]; rfl
      have c1 : W2.cell? ⟨b1, 1, none⟩ = some (.string (bs id)) := by rw [hbk.cell]; rfl
      have c2 : W2.cell? ⟨b1, 2, none⟩ = some (.string (bs eid)) := by rw [hbk.cell]; rfl
      have c3 : W2.cell? ⟨b1, 3, none⟩ = some (.slice y m cc) := by rw [hbk.cell]; rfl
      have c4 : W2.cell? ⟨b1, 4, none⟩ = some (.int .i64 t) := by rw [hbk.cell]; rfl
      have l1 := hbk.lt
      clear hbk
      go_wp2_with fail
      clear c0 c1 c2 c3 c4 l1
      go_ret
      rw [HE.out]
      exact ⟨rfl, HB2.out⟩
    by_cases hm0 : m = 0
    rotate_left
    · have hl : (ns.length == 0) = false := by rw [← HM.out]; simpa using hm0
      have HE : Hid (formedB ⟨4, id, eid, .slice y m cc, ns, t⟩ = false) := by show _ = _; simp only [formedB, hi, hl]; simp
      have hp : ((m : Nat) : Int) > 0 := by omega
      have hbk := HK1.out
      have c0 : W1.cell? ⟨b1, 0, none⟩ = some (.int .i64 (4)) := by rw [hbk.cell]; rfl
      have c1 : W1.cell? ⟨b1, 1, none⟩ = some (.string (bs id)) := by rw [hbk.cell]; rfl
      have c2 : W1.cell? ⟨b1, 2, none⟩ = some (.string (bs eid)) := by rw [hbk.cell]; rfl
      have c3 : W1.cell? ⟨b1, 3, none⟩ = some (.slice y m cc) := by rw [hbk.cell]; rfl
      have c4 : W1.cell? ⟨b1, 4, none⟩ = some (.int .i64 t) := by rw [hbk.cell]; rfl
      have l1 := hbk.lt
      clear hbk
      go_enter Tryz.func29, Tryz.ntmps29
      go_upto_region 1 with fail
      rw [← hW1, ← hb1]
      clear hW1 hb1
      go_wp2_with fail
      go_at_call 47
      refine HId.out.mono ?_
      rintro e W2 ⟨rfl, hb⟩
      have HB2 : Hid (Below w.heap.size w W2) := HB1.out.trans (hb.mono HB1.out.size)
      have HK2 := Lib.hid (HK1.out.below hb)
      clear hb HId
      clear c0 c1 c2 c3 c4 l1
      rw [hi]
      clear hi
      have hbk := HK2.out
      have c0 : W2.cell? ⟨b1, 0, none⟩ = some (.int .i64 (4)) := by rw [hbk.cell]; rfl
      have c1 : W2.cell? ⟨b1, 1, none⟩ = some (.string (bs id)) := by rw [hbk.cell]; rfl
      have c2 : W2.cell? ⟨b1, 2, none⟩ = some (.string (bs eid)) := by rw [hbk.cell]; rfl
      have c3 : W2.cell? ⟨b1, 3, none⟩ = some (.slice y m cc) := by rw [hbk.cell]; rfl
      have c4 : W2.cell? ⟨b1, 4, none⟩ = some (.int .i64 t) := by rw [hbk.cell]; rfl
      have l1 := hbk.lt
      clear hbk
      go_wp2_with fail
      clear c0 c1 c2 c3 c4 l1
      go_ret
      rw [HE.out]
      exact ⟨rfl, HB2.out⟩
    have hl : (ns.length == 0) = true := by rw [← HM.out]; simpa using hm0
    have hp : ¬ ((m : Nat) : Int) > 0 := by omega
    clear hm0
    rcases hz : t == 0 with _ | _
    · have HE : Hid (formedB ⟨4, id, eid, .slice y m cc, ns, t⟩ = false) := by show _ = _; simp only [formedB, hi, hq, hl, hz]; simp
      clear hl
      have hbk := HK1.out
      have c0 : W1.cell? ⟨b1, 0, none⟩ = some (.int .i64 (4)) := by rw [hbk.cell]; rfl
      have c1 : W1.cell? ⟨b1, 1, none⟩ = some (.string (bs id)) := by rw [hbk.cell]; rfl
      have c2 : W1.cell? ⟨b1, 2, none⟩ = some (.string (bs eid)) := by rw [hbk.cell]; rfl
      have c3 : W1.cell? ⟨b1, 3, none⟩ = some (.slice y m cc) := by rw [hbk.cell]; rfl
      have c4 : W1.cell? ⟨b1, 4, none⟩ = some (.int .i64 t) := by rw [hbk.cell]; rfl
      have l1 := hbk.lt
      clear hbk
      go_enter Tryz.func29, Tryz.ntmps29
      go_upto_region 1 with fail
      rw [← hW1, ← hb1]
      clear hW1 hb1
      go_wp2_with fail
      go_at_call 47
      refine HId.out.mono ?_
      rintro e W2 ⟨rfl, hb⟩
      have HB2 : Hid (Below w.heap.size w W2) := HB1.out.trans (hb.mono HB1.out.size)
      have HK2 := Lib.hid (HK1.out.below hb)
      clear hb HId
      clear c0 c1 c2 c3 c4 l1
      rw [hi]
      clear hi
      have hbk := HK2.out
      have c0 : W2.cell? ⟨b1, 0, none⟩ = some (.int .i64 (4)) := by rw [hbk.cell]; rfl
      have c1 : W2.cell? ⟨b1, 1, none⟩ = some (.string (bs id)) := by rw [hbk.cell]; rfl
      have c2 : W2.cell? ⟨b1, 2, none⟩ = some (.string (bs eid)) := by rw [hbk.cell]; rfl
      have c3 : W2.cell? ⟨b1, 3, none⟩ = some (.slice y m cc) := by rw [hbk.cell]; rfl
      have c4 : W2.cell? ⟨b1, 4, none⟩ = some (.int .i64 t) := by rw [hbk.cell]; rfl
      have l1 := hbk.lt
      clear hbk
      go_wp2_with fail
      clear c0 c1 c2 c3 c4 l1
      go_ret
      rw [HE.out]
      exact ⟨rfl, HB2.out⟩
    · have HE : Hid (formedB ⟨4, id, eid, .slice y m cc, ns, t⟩ = true) := by show _ = _; simp only [formedB, hi, hq, hl, hz]; simp
      clear hl
      have hbk := HK1.out
      have c0 : W1.cell? ⟨b1, 0, none⟩ = some (.int .i64 (4)) := by rw [hbk.cell]; rfl
      have c1 : W1.cell? ⟨b1, 1, none⟩ = some (.string (bs id)) := by rw [hbk.cell]; rfl
      have c2 : W1.cell? ⟨b1, 2, none⟩ = some (.string (bs eid)) := by rw [hbk.cell]; rfl
      have c3 : W1.cell? ⟨b1, 3, none⟩ = some (.slice y m cc) := by rw [hbk.cell]; rfl
      have c4 : W1.cell? ⟨b1, 4, none⟩ = some (.int .i64 t) := by rw [hbk.cell]; rfl
      have l1 := hbk.lt
      clear hbk
      go_enter Tryz.func29, Tryz.ntmps29
      go_upto_region 1 with fail
      rw [← hW1, ← hb1]
      clear hW1 hb1
      go_wp2_with fail
      go_at_call 47
      refine HId.out.mono ?_
      rintro e W2 ⟨rfl, hb⟩
      have HB2 : Hid (Below w.heap.size w W2) := HB1.out.trans (hb.mono HB1.out.size)
      have HK2 := Lib.hid (HK1.out.below hb)
      clear hb HId
      clear c0 c1 c2 c3 c4 l1
      rw [hi]
      clear hi
      have hbk := HK2.out
      have c0 : W2.cell? ⟨b1, 0, none⟩ = some (.int .i64 (4)) := by rw [hbk.cell]; rfl
      have c1 : W2.cell? ⟨b1, 1, none⟩ = some (.string (bs id)) := by rw [hbk.cell]; rfl
      have c2 : W2.cell? ⟨b1, 2, none⟩ = some (.string (bs eid)) := by rw [hbk.cell]; rfl
      have c3 : W2.cell? ⟨b1, 3, none⟩ = some (.slice y m cc) := by rw [hbk.cell]; rfl
      have c4 : W2.cell? ⟨b1, 4, none⟩ = some (.int .i64 t) := by rw [hbk.cell]; rfl
      have l1 := hbk.lt
      clear hbk
      go_wp2_with fail
      clear c0 c1 c2 c3 c4 l1
      go_ret
      rw [HE.out]
      exact ⟨rfl, HB2.out⟩
  have kb : k < 1 ∨ 4 < k := by omega
  have e1 : (k == 1) = false := by simpa using k1
  have e2 : (k == 2) = false := by simpa using k2
  have e3 : (k == 3) = false := by simpa using k3
  have HE : Hid (formedB ⟨k, id, eid, .slice y m cc, ns, t⟩ = false) := by show _ = _; unfold formedB; rw [if_pos (kb.elim (fun h => .inr (.inl h)) (fun h => .inr (.inr h)))]
  rcases hi : identB id with _ | _
  · have hbk := HK1.out
    have c0 : W1.cell? ⟨b1, 0, none⟩ = some (.int .i64 (k)) := by rw [hbk.cell]; rfl
    have c1 : W1.cell? ⟨b1, 1, none⟩ = some (.string (bs id)) := by rw [hbk.cell]; rfl
    have c2 : W1.cell? ⟨b1, 2, none⟩ = some (.string (bs eid)) := by rw [hbk.cell]; rfl
    have c3 : W1.cell? ⟨b1, 3, none⟩ = some (.slice y m cc) := by rw [hbk.cell]; rfl
    have c4 : W1.cell? ⟨b1, 4, none⟩ = some (.int .i64 t) := by rw [hbk.cell]; rfl
    have l1 := hbk.lt
    clear hbk
    go_enter Tryz.func29, Tryz.ntmps29
    go_upto_region 1 with fail
    rw [← hW1, ← hb1]
    clear hW1 hb1
    go_wp2_with fail
    go_at_call 47
    refine HId.out.mono ?_
    rintro e W2 ⟨rfl, hb⟩
    have HB2 : Hid (Below w.heap.size w W2) := HB1.out.trans (hb.mono HB1.out.size)
    have HK2 := Lib.hid (HK1.out.below hb)
    clear hb HId
    clear c0 c1 c2 c3 c4 l1
    rw [hi]
    clear hi
    have hbk := HK2.out
    have c0 : W2.cell? ⟨b1, 0, none⟩ = some (.int .i64 (k)) := by rw [hbk.cell]; rfl
    have c1 : W2.cell? ⟨b1, 1, none⟩ = some (.string (bs id)) := by rw [hbk.cell]; rfl
    have c2 : W2.cell? ⟨b1, 2, none⟩ = some (.string (bs eid)) := by rw [hbk.cell]; rfl
    have c3 : W2.cell? ⟨b1, 3, none⟩ = some (.slice y m cc) := by rw [hbk.cell]; rfl
    have c4 : W2.cell? ⟨b1, 4, none⟩ = some (.int .i64 t) := by rw [hbk.cell]; rfl
    have l1 := hbk.lt
    clear hbk
    go_wp2_with fail
    clear c0 c1 c2 c3 c4 l1
    go_ret
    rw [HE.out]
    exact ⟨rfl, HB2.out⟩
  rcases kb with hk | hk
  · have hbk := HK1.out
    have c0 : W1.cell? ⟨b1, 0, none⟩ = some (.int .i64 (k)) := by rw [hbk.cell]; rfl
    have c1 : W1.cell? ⟨b1, 1, none⟩ = some (.string (bs id)) := by rw [hbk.cell]; rfl
    have c2 : W1.cell? ⟨b1, 2, none⟩ = some (.string (bs eid)) := by rw [hbk.cell]; rfl
    have c3 : W1.cell? ⟨b1, 3, none⟩ = some (.slice y m cc) := by rw [hbk.cell]; rfl
    have c4 : W1.cell? ⟨b1, 4, none⟩ = some (.int .i64 t) := by rw [hbk.cell]; rfl
    have l1 := hbk.lt
    clear hbk
    go_enter Tryz.func29, Tryz.ntmps29
    go_upto_region 1 with fail
    rw [← hW1, ← hb1]
    clear hW1 hb1
    go_wp2_with fail
    go_at_call 47
    refine HId.out.mono ?_
    rintro e W2 ⟨rfl, hb⟩
    have HB2 : Hid (Below w.heap.size w W2) := HB1.out.trans (hb.mono HB1.out.size)
    have HK2 := Lib.hid (HK1.out.below hb)
    clear hb HId
    clear c0 c1 c2 c3 c4 l1
    rw [hi]
    clear hi
    have hbk := HK2.out
    have c0 : W2.cell? ⟨b1, 0, none⟩ = some (.int .i64 (k)) := by rw [hbk.cell]; rfl
    have c1 : W2.cell? ⟨b1, 1, none⟩ = some (.string (bs id)) := by rw [hbk.cell]; rfl
    have c2 : W2.cell? ⟨b1, 2, none⟩ = some (.string (bs eid)) := by rw [hbk.cell]; rfl
    have c3 : W2.cell? ⟨b1, 3, none⟩ = some (.slice y m cc) := by rw [hbk.cell]; rfl
    have c4 : W2.cell? ⟨b1, 4, none⟩ = some (.int .i64 t) := by rw [hbk.cell]; rfl
    have l1 := hbk.lt
    clear hbk
    go_wp2_with fail
    clear c0 c1 c2 c3 c4 l1
    go_ret
    rw [HE.out]
    exact ⟨rfl, HB2.out⟩
  · have hk1 : ¬ k < 1 := by omega
    have hbk := HK1.out
    have c0 : W1.cell? ⟨b1, 0, none⟩ = some (.int .i64 (k)) := by rw [hbk.cell]; rfl
    have c1 : W1.cell? ⟨b1, 1, none⟩ = some (.string (bs id)) := by rw [hbk.cell]; rfl
    have c2 : W1.cell? ⟨b1, 2, none⟩ = some (.string (bs eid)) := by rw [hbk.cell]; rfl
    have c3 : W1.cell? ⟨b1, 3, none⟩ = some (.slice y m cc) := by rw [hbk.cell]; rfl
    have c4 : W1.cell? ⟨b1, 4, none⟩ = some (.int .i64 t) := by rw [hbk.cell]; rfl
    have l1 := hbk.lt
    clear hbk
    go_enter Tryz.func29, Tryz.ntmps29
    go_upto_region 1 with fail
    rw [← hW1, ← hb1]
    clear hW1 hb1
    go_wp2_with fail
    go_at_call 47
    refine HId.out.mono ?_
    rintro e W2 ⟨rfl, hb⟩
    have HB2 : Hid (Below w.heap.size w W2) := HB1.out.trans (hb.mono HB1.out.size)
    have HK2 := Lib.hid (HK1.out.below hb)
    clear hb HId
    clear c0 c1 c2 c3 c4 l1
    rw [hi]
    clear hi
    have hbk := HK2.out
    have c0 : W2.cell? ⟨b1, 0, none⟩ = some (.int .i64 (k)) := by rw [hbk.cell]; rfl
    have c1 : W2.cell? ⟨b1, 1, none⟩ = some (.string (bs id)) := by rw [hbk.cell]; rfl
    have c2 : W2.cell? ⟨b1, 2, none⟩ = some (.string (bs eid)) := by rw [hbk.cell]; rfl
    have c3 : W2.cell? ⟨b1, 3, none⟩ = some (.slice y m cc) := by rw [hbk.cell]; rfl
    have c4 : W2.cell? ⟨b1, 4, none⟩ = some (.int .i64 t) := by rw [hbk.cell]; rfl
    have l1 := hbk.lt
    clear hbk
    go_wp2_with fail
    clear c0 c1 c2 c3 c4 l1
    go_ret
    rw [HE.out]
    exact ⟨rfl, HB2.out⟩
end Go.Proofs.YtckocgkndbdhcaaGreatDoor
