/-
  The reference disk: 'Rot', 'Raw'.
-/
import Derived.Test.YtdfjcidiolbbhaaRfMore
import Derived.StillTailTactics
import Derived.Lib.AppendStr
namespace Go.Proofs.Ytdfjcidiolbbhaa
open Go.RowKit Go.Cz Go.Cz.Dk
set_option linter.unusedSimpArgs false
set_option linter.unusedVariables false
attribute [local go_sem] bs_size bs_extract bs_append bs_toList
attribute [local irreducible] cList

set_option maxHeartbeats 1000000 in
theorem rRot_no (b : Nat) (s a k : Int) (m : Dm) (S : List Nat) (w : World) (h : RefAt w b m S) (hr : rotOk m s a k = false) :
    Calls Try.prog 38 #[.pointer (some ⟨b, 0, none⟩), .int .i64 s, .int .i64 a, .int .i64 k] w fun e w' => e = .returned (.tuple #[]) ∧ w' = w := by
  obtain ⟨sb, cap, pv, ar, x, y, z, h⟩ := h
  obtain ⟨hb, c0, -, -, -, -, -, -, -⟩ := h.cells
  clear h
  simp only [rotOk, valid, Bool.and_eq_false_iff, decide_eq_false_iff_not] at hr
  generalize m.st.length = n at *
  by_cases h1 : s < 0
  · clear hr
    go_enter Try.func38, Try.ntmps38
    go_wp2
    exact bodyPost_ret (results_none rfl _ _ _) rfl ⟨rfl, rfl⟩
  by_cases h2 : (n : Int) ≤ s
  · clear hr
    go_enter Try.func38, Try.ntmps38
    go_wp2
    exact bodyPost_ret (results_none rfl _ _ _) rfl ⟨rfl, rfl⟩
  by_cases h3 : a < 0
  · clear hr
    go_enter Try.func38, Try.ntmps38
    go_wp2
    exact bodyPost_ret (results_none rfl _ _ _) rfl ⟨rfl, rfl⟩
  by_cases h4 : 64 ≤ a
  · clear hr
    go_enter Try.func38, Try.ntmps38
    go_wp2
    exact bodyPost_ret (results_none rfl _ _ _) rfl ⟨rfl, rfl⟩
  by_cases h5 : k < 1
  · clear hr
    go_enter Try.func38, Try.ntmps38
    go_wp2
    exact bodyPost_ret (results_none rfl _ _ _) rfl ⟨rfl, rfl⟩
  have h6 : 255 < k := by omega
  clear hr
  go_enter Try.func38, Try.ntmps38
  go_wp2
  exact bodyPost_ret (results_none rfl _ _ _) rfl ⟨rfl, rfl⟩
theorem modify_at {t : Bytes} {a : Nat} {x : UInt8} (hx : t[a]? = some x) (f : UInt8 → UInt8) : t.modify a f = t.take a ++ ([f x] ++ t.drop (a + 1)) := by
  have ha := (List.getElem?_eq_some_iff.1 hx).1
  have he := (List.getElem?_eq_some_iff.1 hx).2
  rw [List.modify_eq_take_cons_drop ha, he]
  rfl
set_option maxRecDepth 5000 in
set_option maxHeartbeats 1000000 in
theorem rRot_ok (b i a k : Nat) (m : Dm) (S : List Nat) (w : World) (h : RefAt w b m S) (hi : i < m.st.length) (ha : a < 64) (hk0 : 0 < k) (hk : k < 256) :
    Calls Try.prog 38 #[.pointer (some ⟨b, 0, none⟩), .int .i64 (i : Int), .int .i64 (a : Int), .int .i64 (k : Int)] w (RfPost b (Dk.rot m i a k) (.tuple #[]) S w) := by
  obtain ⟨sb, cap, pv, ar, x, y, z, h⟩ := h
  obtain ⟨hb, c0, -, -, -, -, -, -, -⟩ := h.cells
  obtain ⟨t, ht⟩ : ∃ t, m.st[i]? = some t := ⟨_, List.getElem?_eq_getElem hi⟩
  have ht64 := h.ok.1 t (List.mem_of_getElem? ht)
  obtain ⟨hs, s0, s1⟩ := h.text ht
  obtain ⟨v, hv⟩ : ∃ v, t[a]? = some v := ⟨_, List.getElem?_eq_getElem (by omega)⟩
  have hrot : Dk.rot m i a k = { m with st := m.st.set i (t.take a ++ ([v ^^^ UInt8.ofNat k] ++ t.drop (a + 1))) } := by
    have hr : rotOk m i a k = true := by simp [rotOk, valid]; omega
    unfold Dk.rot
    rw [if_pos hr]
    simp only [Int.toNat_natCast]
    rw [List.modify_eq_set, ht]
    simp only [Option.map_some, Option.getD_some]
    rw [modify_at hv]
  obtain ⟨u, hu⟩ : ∃ u, u = bs t := ⟨_, rfl⟩
  have hul : u.size = 64 := by rw [hu, bs_size, ht64]
  have kl : a < u.size := by omega
  have huv : u[a] = v := by
    subst hu
    have := hv
    rw [List.getElem?_eq_getElem (by omega)] at this
    exact Option.some.inj this
  have hx : Hid (bits .xor .u8 (u[a].toNat : Int) (k : Int) = ((v ^^^ UInt8.ofNat k).toNat : Int)) := by rw [huv]; exact bits_xor v k hk
  rw [← hu] at s0
  have hul2 : u.size ≤ 64 := by omega
  have ha1 : a + 1 ≤ u.size := by omega
  have Hu := Lib.hid hu
  have Hul := Lib.hid hul
  have Hend := Lib.hid fun (w1 : World) (hw : Below w.heap.size w w1) => (h.below hw).setText i (t := t.take a ++ ([v ^^^ UInt8.ofNat k] ++ t.drop (a + 1))) (by simp; omega)
  have Hrot := Lib.hid hrot
  clear h ht ht64 hv hrot hu hul huv
  go_enter Try.func38, Try.ntmps38
  go_wp2_with fail
  obtain ⟨W, hW⟩ : ∃ W : World, W = w.alloc (.cells #[.int .u8 (bits .xor .u8 (u[a].toNat : Int) (k : Int))] 5) := ⟨_, rfl⟩
  rw [← hW]
  have hbW : Below w.heap.size w W := by rw [hW]; repeat (first | exact Below.refl _ _ | (refine Below.drew ?_) | (refine Below.alloc ?_ (by (try simp only [World.size_alloc, World.size_setCell, World.size_drew] at *); omega) _) | (refine Below.setCell ?_ (by (try simp only [World.size_alloc, World.size_setCell, World.size_drew] at *); omega) _))
  have e0 := (hbW.cell (p := ⟨b, 0, none⟩) hb).trans c0
  have e1 := (hbW.cell (p := ⟨sb, i, none⟩) hs).trans s0
  have e2 := (hbW.frozen (p := ⟨sb, i, none⟩) hs).trans s1
  have hbl : b < W.heap.size := Nat.lt_of_lt_of_le hb hbW.size
  have hsl : sb < W.heap.size := Nat.lt_of_lt_of_le hs hbW.size
  have hg : W.drew.heap[w.heap.size]? = some (.cells (bcells [v ^^^ UInt8.ofNat k]).toArray 5 (0, 0)) := by
    rw [drew_heap, hW, new_heap _ _ _ rfl, hx.out]; rfl
  have hcv := run_convert_text (P := Try.prog) W.drew 56 5 9 Try.underlying56 Try.underlying5 Try.underlying9 w.heap.size 0 1 1 [v ^^^ UInt8.ofNat k] 5 (0, 0) hg (by simp)
  have hcv1 : ([v ^^^ UInt8.ofNat k].drop 0).take 1 = [v ^^^ UInt8.ofNat k] := rfl
  rw [hcv1] at hcv
  clear hcv1
  have HbW := Lib.hid hbW
  clear hW hbW hg c0 s0 s1 hb hs
  refine wp_region_still_tail 17 (by kernel_rfl) (by kernel_rfl) ?_
  simp only [List.take_succ_cons, List.take_zero, List.drop_succ_cons, List.drop_zero]
  have ha2 : a ≤ u.size := by omega
  have hw1 : IntKind.i64.wrap ((a : Int) + 1) = (a : Int) + 1 := IntWalk.i64_in _ (by omega)
  have hw2 : (0 : Int) ≤ (a : Int) + 1 := by omega
  have hw3 : ((a : Int) + 1).toNat = a + 1 := by omega
  rw [show ({ W with drawn := W.drawn + 1 } : World) = W.drew from rfl]
  have hw4 : (a : Int) + 1 ≤ (u.size : Int) := by omega
  have hn1 : ¬ 9223372036854775807 < a + 1 := by omega
  have hn2 : ¬ 9223372036854775807 < a + 1 + (u.size - (a + 1)) := by omega
  have hn3 : ¬ 9223372036854775807 < u.size := by omega
  have Hstr : Hid (u.extract 0 a ++ bs [v ^^^ UInt8.ofNat k] ++ u.extract (a + 1) u.size = bs (t.take a ++ ([v ^^^ UInt8.ofNat k] ++ t.drop (a + 1)))) := by
    show _ = _
    rw [Hu.out, bs_size, bs_extract, bs_extract, bs_append, bs_append, List.append_assoc, List.take_of_length_le (l := t.drop (a + 1)) (by simp), List.drop_zero, Nat.sub_zero]
  have Hfin : Hid (RfIn b (Dk.rot m i a k) S w ((W.setCell ⟨sb, i, none⟩ (.string (u.extract 0 a ++ bs [v ^^^ UInt8.ofNat k] ++ u.extract (a + 1) u.size))).drew)) := by
    show RfIn _ _ _ _ _
    rw [Hstr.out, Hrot.out]
    obtain ⟨S', h1, h2⟩ := (Hend.out W HbW.out).below (Below.refl _ _).drew
    exact ⟨S', h1, (Upd.ofBelow HbW.out).trans h2⟩
  iterate 17 still_step
  refine wpStill_nil ?_
  clear hcv hw1 hw2 hw3 hw4 hn1 hn2 hn3
  go_wp2_with fail
  go_end0
  exact ⟨rfl, Hfin.out⟩
end Go.Proofs.Ytdfjcidiolbbhaa
