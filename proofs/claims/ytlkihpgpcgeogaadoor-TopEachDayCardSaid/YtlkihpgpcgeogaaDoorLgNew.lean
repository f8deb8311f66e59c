/-
  The ledger: New, Open, Balance.
-/
import Derived.Test.YtlkihpgpcgeogaaDoorLgPiece
namespace Go.Proofs.YtlkihpgpcgeogaaDoor
open Go.RowKit Go.Cz Go.Cz.Td Go.ChangeMaps Go.Cz.Lx
set_option linter.unusedSimpArgs false
set_option linter.unusedVariables false
attribute [local irreducible] cList cPlan
theorem mapAU : Tryd.prog.underlying 63 = some (.map 9 70) := by kernel_rfl
theorem mapBU : Tryd.prog.underlying 64 = some (.map 9 4) := by kernel_rfl
theorem strU : Tryd.prog.underlying 9 = some .string := by kernel_rfl
theorem zeroAc (w : World) : (zeroValue 70).run Tryd.prog w = .ok (acV 0 false) w := by kernel_rfl
theorem zeroBo (w : World) : (zeroValue 4).run Tryd.prog w = .ok (.bool false) w := by kernel_rfl
theorem mk_map (t : TypeId) (W : World) : (Instr.makeMap t none).run Tryd.prog W = .ok (.map (some W.heap.size)) (W.alloc (.map #[] 0)) := rfl
theorem map_len {P : Program} {t k e : TypeId} {W : World} {r c : Nat} {es : Array MapEntry} (ht : P.underlying t = some (.map k e)) (hb : W.heap[r]? = some (.map es c)) (ty : TypeId) : (Builtin.len_ #[t] ty #[.map (some r)]).run P W = .ok (.int .i64 es.size) W := by
  simp [Builtin.len_, run_underlying ht, MapKept.run_getObj_map hb, Result.andThen, goInt]
/-- A ledger before its accounts are open. -/
def LedNew (w0 w : World) (b : Nat) (es : Array MapEntry) (c : Nat) (ps : List Piece) : Prop := ∃ ga gi gt, Owns w0 w (blk b (lobj ga (.slice none 0 0) gi gt) :: blk ga (.map es c) :: blk gi (.map #[] 0) :: blk gt (.map #[] 0) :: ps)
set_option maxHeartbeats 1000000 in
theorem lnew_c {w0 : World} {ps : List Piece} (w : World) (h : Owns w0 w ps) : Calls Tryd.prog 9 #[] w fun e w' => ∃ b, e = .returned (.pointer (some ⟨b, 0, none⟩)) ∧ LedNew w0 w' b #[] 0 ps := by
  have h1 := ((h.box (.map #[] 0)).box (.map #[] 0)).box (.map #[] 0)
  have h2 := h1.box (lobj w.heap.size (.slice none 0 0) (w.heap.size + 1) (w.heap.size + 1 + 1))
  simp only [World.size_alloc] at h2
  have HO := Lib.hid h2
  have hm := @mk_map
  clear h h1 h2
  go_enter Tryd.func9, Tryd.ntmps9
  go_wp2_with fail
  go_ret
  exact ⟨_, rfl, _, _, _, Owns.re HO.out [0, 3, 2, 1]⟩
set_option maxRecDepth 100000 in
set_option maxHeartbeats 1000000 in
/-- An account is opened. -/
theorem open_l {w0 : World} {ps : List Piece} {b c : Nat} {es : Array MapEntry} (k : List UInt8) (cr : Bool) (w : World) (h : LedNew w0 w b es c ps) (hk : identB k = true) (hq : 34 ∉ k) (hl : k.length ≤ 1000)
    (hf : Instr.findNow .string (.string (bs k)) es.toList 0 = some none) (hs : es.size < 100) :
    Calls Tryd.prog 10 #[.pointer (some ⟨b, 0, none⟩), .string (bs k), .bool cr] w fun e w' => e = .returned (.int .i64 0) ∧ LedNew w0 w' b (es.push (mE k (acV 0 cr) c)) (c + 1) ps := by
  obtain ⟨ga, gi, gt, h⟩ := h
  have HO := Lib.hid h
  have HI := Lib.hid (ident_c k (fun h => absurd h hq) w (by omega))
  have HK := Lib.hid hk
  have HF := Lib.hid hf
  clear h hk hq hl hf
  go_enter Tryd.func10, Tryd.ntmps10
  go_wp2_with fail
  go_at_call 23
  refine HI.out.mono ?_
  rintro e W1 ⟨rfl, hb⟩
  rw [HK.out]
  replace HO := Lib.hid (HO.out.below hb)
  clear hb HI
  obtain ⟨bk, -⟩ := HO.out.blk
  have hbl := lt_of_block bk
  have cl0 := cell_of_heap bk (i := 0)
  have cl1 := cell_of_heap bk (i := 1)
  have cl2 := cell_of_heap bk (i := 2)
  have cl3 := cell_of_heap bk (i := 3)
  simp only [List.getElem?_toArray, List.getElem?_cons_succ, List.getElem?_cons_zero] at cl0 cl1 cl2 cl3
  clear bk
  have hm := map_miss (P := Tryd.prog) mapAU strU HO.out.swap.blk.1 k (zeroAc W1) true HF.out
  go_upto_region 4 with fail
  clear hm hbl cl0 cl1 cl2 cl3
  obtain ⟨W2, hW2⟩ : ∃ W, W = W1.alloc (.cells #[.int .i64 0, .bool false] 70) := ⟨_, rfl⟩
  obtain ⟨b7, hb7⟩ : ∃ x, x = W1.heap.size := ⟨_, rfl⟩
  have h2 := HO.out.alloc (.cells #[.int .i64 0, .bool false] 70)
  rw [← hW2] at h2 ⊢
  rw [← hb7]
  replace HO := Lib.hid h2
  clear h2 hW2 hb7
  obtain ⟨bk, -⟩ := HO.out.blk
  have hbl := lt_of_block bk
  have cl0 := cell_of_heap bk (i := 0)
  have cl1 := cell_of_heap bk (i := 1)
  have cl2 := cell_of_heap bk (i := 2)
  have cl3 := cell_of_heap bk (i := 3)
  simp only [List.getElem?_toArray, List.getElem?_cons_succ, List.getElem?_cons_zero] at cl0 cl1 cl2 cl3
  clear bk
  have hm := map_new (P := Tryd.prog) mapAU strU HO.out.swap.blk.1 k (acV 0 cr) HF.out
  have hln : ∀ ty, (Builtin.len_ #[63] ty #[.map (some ga)]).run Tryd.prog W2 = .ok (.int .i64 es.size) W2 := fun ty => map_len mapAU HO.out.swap.blk.1 ty
  have hge : decide ((es.size : Int) ≥ 100) = false := by simp; omega
  go_wp2_with fail
  go_ret
  exact ⟨rfl, ga, gi, gt, (HO.out.swap.turn _).swap⟩
theorem led_open {w0 w : World} {ps : List Piece} {b : Nat} (h : LedNew w0 w b (acE fun _ => 0) 2 ps) : Owns w0 w (ledP b ⟨fun _ => 0, [], []⟩ :: ps) := by
  obtain ⟨ga, gi, gt, h⟩ := h
  have h1 := (h.nilPush.rowNil 41 3)
  have h2 := Owns.re h1 [2, 3, 4, 5, 0, 1]
  exact Owns.asLed (s := ⟨fun _ => 0, [], []⟩) (v := .slice none 0 0) (bl := []) (show idsOk #[] [] from rfl) rfl h2
theorem lbal_res {W : World} {tmps : Array Value} : (results Tryd.f12 tmps).run Tryd.prog W = .ok (.tuple #[tmps.getD 4 undef, tmps.getD 5 undef]) W := by
  simp [results, Tryd.results12, go_sem]
set_option maxRecDepth 100000 in
set_option maxHeartbeats 1000000 in
theorem lbal_c {w0 : World} {ps : List Piece} {b : Nat} {s : Lg} (z : Bool) (w : World) (h : Owns w0 w (ledP b s :: ps)) :
    Calls Tryd.prog 12 #[.pointer (some ⟨b, 0, none⟩), .string (bs (nmB z))] w fun e w' => e = .returned (.tuple #[.int .i64 (s.f z), .int .i64 0]) ∧ Below w.heap.size w w' := by
  obtain ⟨ga, gi, gt, v, ids, ci, tr, ct, bl, -, -, h⟩ := h.led
  obtain ⟨bk, -⟩ := h.blk
  have hbl := lt_of_block bk
  have cl0 := cell_of_heap bk (i := 0)
  have cl1 := cell_of_heap bk (i := 1)
  have cl2 := cell_of_heap bk (i := 2)
  have cl3 := cell_of_heap bk (i := 3)
  simp only [List.getElem?_toArray, List.getElem?_cons_succ, List.getElem?_cons_zero] at cl0 cl1 cl2 cl3
  clear bk
  have hm := map_look (P := Tryd.prog) mapAU strU h.swap.blk.1 (nmB z) true (find_ac s.f z)
  clear h
  obtain ⟨k, hk⟩ : ∃ k, k = bs (nmB z) := ⟨_, rfl⟩
  rw [← hk] at hm ⊢
  clear hk
  go_enter Tryd.func12, Tryd.ntmps12
  go_wp2_with fail
  refine bodyPost_ret lbal_res (by rfl) ⟨rfl, by repeat (first | exact Below.refl _ _ | (refine Below.drew ?_) | (refine Below.alloc ?_ (by (try simp only [World.size_alloc, World.size_setCell, World.size_drew] at *); omega) _) | (refine Below.setCell ?_ (by (try simp only [World.size_alloc, World.size_setCell, World.size_drew] at *); omega) _))⟩
end Go.Proofs.YtlkihpgpcgeogaaDoor
