/-
  The reference disk: 'Raw', 'zero', 'New', and the law's 'want'.
-/
import Derived.Test.YtdfjcidiolbbhaaRfLast
namespace Go.Proofs.Ytdfjcidiolbbhaa
open Go.RowKit Go.Cz Go.Cz.Dk
set_option linter.unusedSimpArgs false
set_option linter.unusedVariables false
attribute [local go_sem] bs_size bs_extract bs_append bs_toList
attribute [local irreducible] cList

theorem rRot_c (b : Nat) (s a k : Int) (m : Dm) (S : List Nat) (w : World) (h : RefAt w b m S) :
    Calls Try.prog 38 #[.pointer (some ⟨b, 0, none⟩), .int .i64 s, .int .i64 a, .int .i64 k] w (RfPost b (Dk.rot m s a k) (.tuple #[]) S w) := by
  by_cases hr : rotOk m s a k = true
  · simp only [rotOk, valid, Bool.and_eq_true, decide_eq_true_eq] at hr
    obtain ⟨i, rfl⟩ : ∃ i : Nat, s = i := ⟨s.toNat, by omega⟩
    obtain ⟨a, rfl⟩ : ∃ i : Nat, a = i := ⟨a.toNat, by omega⟩
    obtain ⟨k, rfl⟩ : ∃ i : Nat, k = i := ⟨k.toNat, by omega⟩
    exact rRot_ok b i a k m S w h (by omega) (by omega) (by omega) (by omega)
  · have hr' : rotOk m s a k = false := by simpa using hr
    have hm : Dk.rot m s a k = m := by simp [Dk.rot, hr']
    rw [hm]
    refine (rRot_no b s a k m S w h hr').mono ?_
    rintro e w' ⟨rfl, rfl⟩
    exact ⟨rfl, h.in⟩

theorem info_rbyte : (Try.prog.info? 5).map (fun i => (i.zero, i.size, i.bytes)) = some (some (.int .u8 0), 1, 1) := by kernel_rfl
theorem flatten_take_succ {st : List Bytes} {j : Nat} {t : Bytes} (h : st[j]? = some t) : (st.take (j + 1)).flatten = (st.take j).flatten ++ t := by
  obtain ⟨hj, he⟩ := List.getElem?_eq_some_iff.1 h
  rw [List.take_succ_eq_append_getElem hj, he, List.flatten_append]
  simp
theorem strCells_bs (t : Bytes) : Lib.strCells (bs t) = bcells t := rfl
theorem row_text {w : World} {B g n cap : Nat} {t : Bytes} (h : w.ownsRow B 5 1 (.slice (some ⟨g, 0, none⟩) n cap) n (bcells t)) (hn : t.length = n) :
    (convert 56 9 (.slice (some ⟨g, 0, none⟩) n cap)).run Try.prog w = .ok (.string (bs t)) w := by
  have hc : Lib.Bytes w g 0 (bs t) := by
    intro i hi
    have hi' : i < t.length := by simpa [bs_size] using hi
    rw [Nat.zero_add, h.cellAt i (by omega)]
    simp only [bcells, List.getElem?_map, List.getElem?_eq_getElem hi', Option.map_some]
    rfl
  have hr := Lib.run_convert_window (P := Try.prog) w 56 5 9 Try.underlying56 Try.underlying5 Try.underlying9 g 0 (bs t) hc 0 n cap (by rw [bs_size]; omega)
  rw [Nat.zero_add] at hr
  rw [hr, bs_extract]
  simp [← hn]
set_option maxHeartbeats 2000000 in
theorem rRaw_c (b : Nat) (m : Dm) (S : List Nat) (w : World) (h : RefAt w b m S) (hpos : 0 < m.st.length) :
    Calls Try.prog 39 #[.pointer (some ⟨b, 0, none⟩)] w fun e w' => e = .returned (.string (bs (Dk.raw m))) ∧ Below w.heap.size w w' := by
  obtain ⟨sb, cap, pv, ar, x, y, z, h⟩ := h
  obtain ⟨hb, c0, -, -, -, -, -, -, -⟩ := h.cells
  have hfew := h.few
  have Ht : Hid (∀ (i : Nat) t, m.st[i]? = some t → sb < w.heap.size ∧ w.cell? ⟨sb, i, none⟩ = some (.string (bs t))) := fun i t hi => ⟨(h.text hi).1, (h.text hi).2.1⟩
  have Hlen : Hid (∀ j, j ≤ m.st.length → (m.st.take j).flatten.length = j * 64) := fun j hj => by rw [length_flatten_of fun s hs => h.ok.1 s (List.mem_of_mem_take hs), List.length_take, Nat.min_eq_left hj]
  have H64 : Hid (∀ (i : Nat) t, m.st[i]? = some t → t.length = 64) := fun i t hi => h.ok.1 t (List.mem_of_getElem? hi)
  clear h
  obtain ⟨i0, hi, hz0, hz1, hz2⟩ := info_parts info_rbyte
  go_enter Try.func39, Try.ntmps39
  go_wp2_with (refine wpList_plain rfl fun K hK => wp_make (.const (.int .i64 0)) (.tmp 12) 56 (by rfl) 5 (.int .u8 0) 1 1 Try.underlying56 info_rbyte 0 (m.st.length * 64) (by rfl) (by go_num) (by omega) (by omega) (by omega) ?_)
  have hown0 := World.ownsRow_made (base := w.heap.size) (e := 5) (size := 1) w (madeCells #[.int .u8 0] (m.st.length * 64 * 1)) (m.st.length * 64) (Nat.le_refl _) (by unfold maxLen; omega) (by simp [madeCells])
  rw [Nat.mul_one] at hown0
  have H0 : Hid ((w.alloc (.cells (madeCells #[.int .u8 0] (m.st.length * 64)) 5)).ownsRow w.heap.size 5 1 (.slice (some ⟨w.heap.size, 0, none⟩) 0 (m.st.length * 64)) (0 * 64) (bcells (m.st.take 0).flatten) ∧ Below w.heap.size w (w.alloc (.cells (madeCells #[.int .u8 0] (m.st.length * 64)) 5))) := ⟨by simpa [bcells] using hown0, by repeat (first | exact Below.refl _ _ | (refine Below.drew ?_) | (refine Below.alloc ?_ (by (try simp only [World.size_alloc, World.size_setCell, World.size_drew] at *); omega) _) | (refine Below.setCell ?_ (by (try simp only [World.size_alloc, World.size_setCell, World.size_drew] at *); omega) _))⟩
  clear hown0
  go_loopg [3, 4] m.st.length (fun gk o i wr => ∃ (j : Nat) (v : Value), v = o ∧ gk = m.st.length - j ∧ j ≤ m.st.length ∧ i = .int .i64 j ∧ Hid (wr.ownsRow w.heap.size 5 1 v (j * 64) (bcells (m.st.take j).flatten) ∧ Below w.heap.size w wr))
  case atStart => exact ⟨0, _, rfl, rfl, Nat.zero_le _, rfl, H0⟩
  case round =>
    rename_i J1 K1 hJ1 hK1
    clear H0
    obtain ⟨j, v, rfl, rfl, hj, rfl, hr⟩ := hrel
    have hbw := hr.out.2
    have hb' : b < wr.heap.size := Nat.lt_of_lt_of_le hb hbw.size
    have c0' := (hbw.cell (p := ⟨b, 0, none⟩) hb).trans c0
    by_cases hlt : j < m.st.length
    · obtain ⟨t, ht⟩ : ∃ t, m.st[j]? = some t := ⟨_, List.getElem?_eq_getElem hlt⟩
      obtain ⟨hs0, s0⟩ := Ht.out j t ht
      have hs' : sb < wr.heap.size := Nat.lt_of_lt_of_le hs0 hbw.size
      have s0' := (hbw.cell (p := ⟨sb, j, none⟩) hs0).trans s0
      have h64 := H64.out j t ht
      have ht64 : t.length ≤ 64 := by omega
      have H64t := Lib.hid h64
      have Hap : Hid ((m.st.take (j + 1)).flatten = (m.st.take j).flatten ++ t) := flatten_take_succ ht
      have hsz : w.heap.size ≤ wr.heap.size := hbw.size
      clear hbw ht h64 s0
      go_wp2_with (at_builtin; refine Lib.wpList_append_own_string _ rfl (.tmp 23) (.tmp 30) 56 9 rfl w.heap.size 5 i0 Try.underlying56 Try.underlying9 hi hz0 hz1 hz2 _ (j * 64) (bcells (m.st.take j).flatten) rfl hr.out.1 (bs t) rfl (by rw [bs_size]; unfold maxLen; omega) (by rw [bs_size]; omega) hsz ?_; intro v' w2 hown2 hgrow2 _)
      have H2 : Hid (w2.ownsRow w.heap.size 5 1 v' ((j + 1) * 64) (bcells (m.st.take (j + 1)).flatten) ∧ Below w.heap.size w w2) := by
        refine ⟨?_, hr.out.2.grown hgrow2 hsz fun k hk => (hr.out.1.lt k hk).1⟩
        rw [bs_size, H64t.out, strCells_bs, show j * 64 + 64 = (j + 1) * 64 by omega] at hown2
        rw [Hap.out]
        simpa [bcells] using hown2
      clear hown2 hgrow2 hr
      go_roundg (m.st.length - (j + 1))
      case measure => omega
      case rel => exact ⟨j + 1, _, rfl, rfl, by omega, by go_num, H2⟩
    · obtain rfl : j = m.st.length := by omega
      clear hJ1 hK1
      have hrow := hr.out.1
      obtain ⟨g, cp, rfl⟩ : ∃ g cp, v = .slice (some ⟨g, 0, none⟩) (m.st.length * 64) cp := by
        rcases hrow.2 with ⟨_, h0⟩ | ⟨g, cp, cur, hv, _⟩
        · omega
        · exact ⟨g, cp, hv⟩
      rw [List.take_length] at hrow
      have hfl : m.st.flatten.length = m.st.length * 64 := by have := Hlen.out m.st.length (Nat.le_refl _); rwa [List.take_length] at this
      have hcv := row_text hrow hfl
      have Hb := Lib.hid hr.out.2
      clear hr hrow hfl
      go_wp2_with fail
      go_ret
      exact ⟨by first | rfl | simp [Dk.raw, go_sem], Hb.out⟩
set_option maxHeartbeats 1000000 in
theorem rzero_c (n : Nat) (w : World) (hn : n ≤ 100000) : Calls Try.prog 32 #[.int .i64 (n : Int)] w fun e w' => e = .returned (.string (bs (List.replicate n 0))) ∧ w' = w := by
  go_enter Try.func32, Try.ntmps32
  go_wp2_with fail
  go_loopw [3, 4] (fun s i wr => wr = w ∧ ∃ j : Nat, j ≤ n ∧ i = .int .i64 j ∧ s = .string (bs (List.replicate j 0))) (fun _ i _ => n - (intOf i).toNat)
  case atStart => exact ⟨rfl, 0, Nat.zero_le _, rfl, rfl⟩
  case round =>
    obtain ⟨rfl, j, hj, rfl, rfl⟩ := hrel
    by_cases hlt : j < n
    · have h1 : (List.replicate j (0 : UInt8)).length ≤ 100000 := by simp; omega
      have e1 : ({ data := #[0] } : ByteArray) = bs [0] := rfl
      have Hs : Hid (bs (List.replicate j 0) ++ { data := #[0] } = bs (List.replicate (j + 1) 0)) := by
        show _ = _
        rw [e1, bs_append, List.replicate_succ']
      clear e1
      go_wp2_with fail
      go_roundw
      case rel => exact ⟨trivial, j + 1, by omega, by go_num, by rw [Hs.out]⟩
      case measure => simp [intOf]; omega
    · obtain rfl : j = n := by omega
      go_wp2_with fail
      go_ret
      exact ⟨rfl, rfl⟩
end Go.Proofs.Ytdfjcidiolbbhaa
