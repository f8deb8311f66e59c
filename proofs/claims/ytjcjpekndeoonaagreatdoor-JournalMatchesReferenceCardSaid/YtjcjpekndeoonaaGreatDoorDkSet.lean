/-
  The program's disk: 'set', 'settle', 'Fail', 'count', 'Write', 'Sync'.
-/
import Derived.Test.YtjcjpekndeoonaaGreatDoorDkAt
namespace Go.Proofs.YtjcjpekndeoonaaGreatDoor
open Go.RowKit Go.Cz Go.Cz.Dk
set_option linter.unusedSimpArgs false
set_option linter.unusedVariables false
attribute [local go_sem] bs_size bs_extract bs_append bs_toList

theorem info_u8 : (Tryz.prog.info? 5).map (·.size) = some 1 := by kernel_rfl
set_option maxHeartbeats 1000000 in
theorem set_c (b sb i : Nat) (st : List Bytes) (t : Bytes) (w : World) (hb : b < w.heap.size) (c0 : w.cell? ⟨b, 0, none⟩ = some (.slice (some ⟨sb, 0, none⟩) (st.length * 64) (st.length * 64)))
    (hs : w.heap[sb]? = some (.cells (bcells st.flatten).toArray 5 (0, 0))) (hst : ∀ s ∈ st, s.length = 64) (hf : st.length ≤ 4000) (hi : i < st.length) (ht : t.length ≤ 64) :
    Calls Tryz.prog 62 #[.pointer (some ⟨b, 0, none⟩), .agg #[.int .i64 ((i : Int) * 64), .int .i64 (((i : Int) + 1) * 64)], .string (bs t)] w
      fun e w' => e = .returned (.tuple #[]) ∧ Mod [sb] w w' ∧ w'.heap[sb]? = some (.cells (bcells (setS st i t).flatten).toArray 5 (0, 0)) := by
  have hsb := lt_of_block hs
  have hsp : splice (bcells st.flatten) (i * 64) (bcells (t.take ((i + 1) * 64 - i * 64))) = bcells (setS st i t).flatten := by
    rw [← splice_flatten hst hi ht, List.take_of_length_le (by omega)]
    exact splice_map _ _ _ _
  have hlen : (bcells st.flatten).length = st.length * 64 := by rw [length_bcells, length_flatten_of hst]
  have Hs := Lib.hid hs; clear hs
  have Hsp := Lib.hid hsp; clear hsp
  have Hlen := Lib.hid hlen; clear hlen hst
  generalize hL : st.flatten = L at *
  clear hL
  generalize st.length = n at *
  have k1 : ¬ n * 64 = i * 64 := by omega
  go_enter Tryz.func62, Tryz.ntmps62
  go_wp2
  refine wp_region_can [] (List.range 11) (by kernel_rfl) (by kernel_rfl) ?_
  go_wp2_with (first | refine cl_nil ?_ | (refine cl_do (i := 10) rfl rfl rfl rfl (fun K hK => ?_); go_loud (refine wp_copy_text (.tmp 14) (.tmp 15) 56 9 (by rfl) 5 Tryz.underlying56 info_u8 sb (i * 64) ((i + 1) * 64 - i * 64) (n * 64 - i * 64) t (by rfl) (by rfl) _ 5 ((Below.heap_alloc w _ sb hsb).trans Hs.out) (by rw [Hlen.out]; omega) ?_); intro w1 hw1 hm1) | (refine cl_do rfl rfl rfl rfl (fun _ _ => ?_)))
  go_end0
  exact ⟨rfl, (((Mod.refl _ w).alloc _).drew).trans hm1, by rw [hw1, Hsp.out]⟩

/-- A slice of pending writes that can be read. -/
def PendAt (w : World) (v : Value) (q : List (Nat × Bytes)) : Prop :=
  ∃ a cap, v = .slice a q.length cap ∧ q.length ≤ cap ∧ (q = [] ∨ ∃ g, a = some ⟨g, 0, none⟩ ∧ g < w.heap.size ∧ ∀ j p, q[j]? = some p →
    w.cell? ⟨g, j * 3, none⟩ = some (.int .i64 ((p.1 : Int) * 64)) ∧ w.cell? ⟨g, j * 3 + 1, none⟩ = some (.int .i64 (((p.1 : Int) + 1) * 64)) ∧ w.cell? ⟨g, j * 3 + 2, none⟩ = some (.string (bs p.2)))
theorem settle_snoc (st : List Bytes) (q : List (Nat × Bytes)) (p : Nat × Bytes) : Dk.settle st (q ++ [p]) = setS (Dk.settle st q) p.1 p.2 := by simp [Dk.settle]
set_option maxHeartbeats 1000000 in
theorem settle_c (b sb : Nat) (st : List Bytes) (q : List (Nat × Bytes)) (v : Value) (w : World) (hb : b < w.heap.size) (hbs : b ≠ sb) (c0 : w.cell? ⟨b, 0, none⟩ = some (.slice (some ⟨sb, 0, none⟩) (st.length * 64) (st.length * 64)))
    (hs : w.heap[sb]? = some (.cells (bcells st.flatten).toArray 5 (0, 0))) (hst : ∀ s ∈ st, s.length = 64) (hf : st.length ≤ 4000) (hq : PendAt w v q) (hn : q.length ≤ 140737488355328)
    (hv : ∀ p ∈ q, p.1 < st.length ∧ p.2.length = 64) (hg : ∀ g, v.ownBlock = some g → g ≠ sb) :
    Calls Tryz.prog 61 #[.pointer (some ⟨b, 0, none⟩), v] w
      fun e w' => e = .returned (.tuple #[]) ∧ Mod [sb] w w' ∧ w'.heap[sb]? = some (.cells (bcells (Dk.settle st q).flatten).toArray 5 (0, 0)) := by
  obtain ⟨a, cap, rfl, hcap, hq⟩ := hq
  have Hs := Lib.hid hs; clear hs
  have Hst := Lib.hid hst; clear hst
  have Hq := Lib.hid hq; clear hq
  have Hv := Lib.hid hv; clear hv
  have Hg := Lib.hid hg; clear hg
  go_enter Tryz.func61, Tryz.ntmps61
  go_wp2
  go_loopw [8] (fun i wr => ∃ j : Nat, j ≤ q.length ∧ i = .int .i64 j ∧ Hid (Mod [sb] w wr ∧ wr.heap[sb]? = some (.cells (bcells (Dk.settle st (q.take j)).flatten).toArray 5 (0, 0)))) (fun i _ => q.length - (intOf i).toNat)
  case atStart => exact ⟨0, Nat.zero_le _, rfl, Mod.refl _ _, by simpa [Dk.settle] using Hs.out⟩
  case round =>
    obtain ⟨j, hj, rfl, hr⟩ := hrel
    by_cases hlt : j < q.length
    · obtain ⟨p, hp⟩ : ∃ p, q[j]? = some p := ⟨q[j], List.getElem?_eq_getElem hlt⟩
      obtain ⟨hm, hsr⟩ := hr.out
      rcases Hq.out with h0 | ⟨g, rfl, hgl, hcell⟩
      · rw [h0] at hlt; simp at hlt
      · obtain ⟨c1, c2, c3⟩ := hcell j p hp
        have hgs : g ∉ [sb] := by simpa using Hg.out g rfl
        have hbn : b ∉ [sb] := by simpa using hbs
        rw [← hm.cell (p := ⟨g, _, none⟩) hgl hgs] at c1 c2 c3
        have c0' := c0
        rw [← hm.cell (p := ⟨b, _, none⟩) hb hbn] at c0'
        have hbr : b < wr.heap.size := Nat.lt_of_lt_of_le hb hm.size
        have hgr : g < wr.heap.size := Nat.lt_of_lt_of_le hgl hm.size
        have hsbr := lt_of_block hsr
        have hpv := Hv.out p (List.mem_of_getElem? hp)
        have hi1 : p.1 < st.length := hpv.1
        have Hpv := Lib.hid hpv; clear hpv
        have Hsr := Lib.hid hsr; clear hsr
        have Hp := Lib.hid hp; clear hp
        have Hm := Lib.hid hm; clear hm
        clear hr
        go_wp2_with fail
        refine (set_c b sb p.1 (Dk.settle st (q.take j)) p.2 _ (by simp; omega) (by rw [length_settle]; simp [go_sem, hbr, c0']) ((Below.heap_alloc wr _ sb hsbr).trans Hsr.out)
          (settle_all _ _ Hst.out fun p' hp' => (Hv.out p' (List.mem_of_mem_take hp')).2) (by rw [length_settle]; exact hf) (by rw [length_settle]; exact hi1) (by rw [Hpv.out.2]; omega)).mono ?_
        rintro e w1 ⟨rfl, hm1, hs1⟩
        have Hm1 := Lib.hid hm1; clear hm1
        have Hs1 := Lib.hid hs1; clear hs1
        go_wp2
        go_roundw
        case rel =>
          refine ⟨j + 1, by omega, by go_num, ⟨(Hm.out.alloc _).trans Hm1.out, ?_⟩⟩
          rw [Hs1.out, List.take_succ_eq_append_getElem hlt, settle_snoc]
          have : q[j] = p := by have := Hp.out; rw [List.getElem?_eq_getElem hlt] at this; exact Option.some.inj this
          rw [this]
        case measure => simp [intOf]; omega
    · obtain rfl : j = q.length := by omega
      obtain ⟨hm, hsr⟩ := hr.out
      have Hm := Lib.hid hm; clear hm
      have Hsr := Lib.hid hsr; clear hsr hr
      go_wp2
      go_end0
      exact ⟨rfl, Hm.out, by rw [Hsr.out, List.take_length]⟩
end Go.Proofs.YtjcjpekndeoonaaGreatDoor
