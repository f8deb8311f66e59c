/-
  The program's disk: 'Read', 'Arm', 'Start', 'Rot', 'Raw', 'New'.
-/
import Derived.Test.YtjcjpekndeoonaaGreatDoorDkWrite
namespace Go.Proofs.YtjcjpekndeoonaaGreatDoor
open Go.RowKit Go.Cz Go.Cz.Dk
set_option linter.unusedSimpArgs false
set_option linter.unusedVariables false
set_option maxRecDepth 5000
attribute [local go_sem] bs_size bs_extract bs_append bs_toList

set_option maxHeartbeats 1000000 in
theorem Start_c (b : Nat) (m : Dm) (S : List Nat) (w : World) (h : DiskAt w b m S) :
    Calls Tryz.prog 22 #[.pointer (some ⟨b, 0, none⟩)] w (DkPost b (Dk.start m) (.tuple #[]) S w) := by
  obtain ⟨sb, qv, av, ab, h⟩ := h
  obtain ⟨hb, c0, c1, c2, c3, hf⟩ := h.cells
  have f2 := hf 2
  have f3 := hf 3
  have hn := h.nodup
  rw [h.own] at hn
  have bS : b ∈ S := by rw [h.own]; simp
  have hbs : b ≠ sb := by simp at hn; exact hn.1.1
  have hqb : qv.ownBlock ≠ some b := by intro e; rw [e] at hn; simp at hn
  have Hend : Hid (DkPost b (Dk.start m) (.tuple #[]) S w (.returned (.tuple #[])) ((w.setCell ⟨b, 2, none⟩ (.bool false)).setCell ⟨b, 3, none⟩ (.pointer none))) := by
    have h1 := setCell_heap (i := 2) h.main (.bool false)
    have h2 := setCell_heap (i := 3) h1 (.pointer none)
    refine ⟨b :: sb :: (qv.ownBlock.toList ++ []), rfl, ⟨sb, qv, _, [], ⟨?_, ?_, ?_, .inl ⟨rfl, rfl, rfl⟩, rfl, ?_, ok_start h.ok, h.few⟩⟩, ((Mod.refl S w).setCell (.inl bS) _).setCell (.inl bS) _, ?_⟩
    · rw [h2]; simp [Dk.start]
    · rw [setCell_heap_ne (Ne.symm hbs), setCell_heap_ne (Ne.symm hbs)]; exact h.stab
    · exact ownsRow_setCell_other (ownsRow_setCell_other h.row hqb _) hqb _
    · obtain ⟨n1, hn⟩ := List.nodup_cons.1 hn
      obtain ⟨n2, hn⟩ := List.nodup_cons.1 hn
      have n3 := (List.nodup_append.1 hn).1
      simp at n1 n2
      exact List.nodup_cons.2 ⟨by simp; exact ⟨n1.1, n1.2.1⟩, List.nodup_cons.2 ⟨by simp; exact n2.1, by simpa using n3⟩⟩
    · intro k hk; left; rw [h.own]; simp at hk ⊢; rcases hk with rfl | rfl | hk <;> simp [*]
  clear h hf hn
  go_enter Tryz.func22, Tryz.ntmps22
  go_wp2
  go_end0
  exact Hend.out
set_option maxHeartbeats 1000000 in
theorem Start_nil (w : World) : Calls Tryz.prog 22 #[.pointer none] w fun e w' => e = .returned (.tuple #[]) ∧ w' = w := by
  go_enter Tryz.func22, Tryz.ntmps22
  go_wp2
  go_end0
  exact ⟨rfl, rfl⟩

/-- Another alarm. -/
theorem alarm_end {w w1 : World} {b sb : Nat} {m : Dm} {S ab ab' : List Nat} {qv av av' : Value} {al' : Option (Int × Int × Int)} (h : DiskAt' w b m S sb qv av ab) (hm : Mod S w w1)
    (hmain : w1.heap[b]? = some (.cells #[.slice (some ⟨sb, 0, none⟩) (m.st.length * 64) (m.st.length * 64), qv, .bool m.off, av'] 72 (0, 0)))
    (hkeep : ∀ k ∈ S, k ≠ b → w1.heap[k]? = w.heap[k]?) (ha : AlarmAt w1 av' al' ab') (hab : ∀ k ∈ ab', w.heap.size ≤ k) (hnd : ab'.Nodup) (hal : ∀ x, al' = some x → 0 ≤ x.1 ∧ x.1 ≤ 9223372036854775807) :
    ∃ S', DiskAt w1 b { m with al := al' } S' ∧ Upd S S' w w1 := by
  have hlt := (show DiskAt w b m S from ⟨sb, qv, av, ab, h⟩).lt
  have hn := h.nodup
  rw [h.own] at hn
  have sS : sb ∈ S := by rw [h.own]; simp
  have bS : b ∈ S := by rw [h.own]; simp
  have hbs : b ≠ sb := by simp at hn; exact hn.1.1
  refine ⟨b :: sb :: (qv.ownBlock.toList ++ ab'), ⟨sb, qv, av', ab', ⟨hmain, (hkeep sb sS (Ne.symm hbs)).trans h.stab, ?_, ha, rfl, ?_, ⟨h.ok.1, h.ok.2.1, hal⟩, h.few⟩⟩, hm, ?_⟩
  · refine ⟨h.row.1, ?_⟩
    rcases h.row.2 with hx | ⟨g, cap, cur, rfl, h1, hg, r⟩
    · exact .inl hx
    · refine .inr ⟨g, cap, cur, rfl, h1, (hkeep g (by rw [h.own]; simp [Value.ownBlock]) ?_).trans hg, r⟩
      intro e; subst e; simp [Value.ownBlock] at hn
  · obtain ⟨n1, hn⟩ := List.nodup_cons.1 hn
    obtain ⟨n2, hn⟩ := List.nodup_cons.1 hn
    have n3 := (List.nodup_append.1 hn).1
    simp at n1 n2
    have q1 : ∀ k ∈ qv.ownBlock.toList, k < w.heap.size := fun k hk => hlt k (by rw [h.own]; simp at hk ⊢; exact .inr (.inr (.inl hk)))
    have hbl := hlt b bS
    have hsl := hlt sb sS
    refine List.nodup_cons.2 ⟨?_, List.nodup_cons.2 ⟨?_, List.nodup_append.2 ⟨n3, hnd, ?_⟩⟩⟩
    · simp; exact ⟨n1.1, n1.2.1, fun hk => by have := hab _ hk; omega⟩
    · simp; exact ⟨n2.1, fun hk => by have := hab _ hk; omega⟩
    · intro x hx y hy e; subst e; have := q1 x hx; have := hab x hy; omega
  · intro k hk
    rcases List.mem_cons.1 hk with rfl | hk
    · exact .inl bS
    rcases List.mem_cons.1 hk with rfl | hk
    · exact .inl sS
    rcases List.mem_append.1 hk with hk | hk
    · left; rw [h.own]; simp at hk ⊢; exact .inr (.inr (.inl hk))
    · exact .inr (hab k hk)

set_option maxHeartbeats 1000000 in
theorem Arm_c (b : Nat) (a wr bt : Int) (m : Dm) (S : List Nat) (w : World) (h : DiskAt w b m S) (ha : a ≤ 9223372036854775807) :
    Calls Tryz.prog 24 #[.pointer (some ⟨b, 0, none⟩), .int .i64 a, .int .i64 wr, .int .i64 bt] w (DkPost b (Dk.arm m a wr bt) (.tuple #[]) S w) := by
  have h0 := h
  obtain ⟨sb, qv, av, ab, h⟩ := h
  obtain ⟨hb, c0, c1, c2, c3, hf⟩ := h.cells
  have f3 := hf 3
  by_cases ho : m.off = true
  · have Hend : Hid (DkPost b (Dk.arm m a wr bt) (.tuple #[]) S w (.returned (.tuple #[])) w) := ⟨S, rfl, by simpa [Dk.arm, ho] using h0, Upd.refl _ _⟩
    rw [ho] at c2
    clear h h0 ho hf
    go_enter Tryz.func24, Tryz.ntmps24
    go_wp2
    refine bodyPost_ret (results_none rfl _ _ _) rfl ?_
    exact Hend.out
  have ho' : m.off = false := by simpa using ho
  have bS : b ∈ S := by rw [h.own]; simp
  have hn := h.nodup
  rw [h.own] at hn
  have hlt := h0.lt
  by_cases hp : 0 ≤ a
  · have Hend : Hid (DkPost b (Dk.arm m a wr bt) (.tuple #[]) S w (.returned (.tuple #[])) (((w.setCell ⟨b, 3, none⟩ (.pointer none)).setCell ⟨b, 3, none⟩ (.pointer (some ⟨w.heap.size, 0, none⟩))).alloc (.cells #[.int .i64 a, .int .i64 wr, .int .i64 bt] 95))) := by
      have h1 := setCell_heap (i := 3) h.main (.pointer none)
      have h2 := setCell_heap (i := 3) h1 (.pointer (some ⟨w.heap.size, 0, none⟩))
      obtain ⟨S', hd, hu⟩ := alarm_end (w1 := ((w.setCell ⟨b, 3, none⟩ (.pointer none)).setCell ⟨b, 3, none⟩ (.pointer (some ⟨w.heap.size, 0, none⟩))).alloc (.cells #[.int .i64 a, .int .i64 wr, .int .i64 bt] 95))
        (av' := .pointer (some ⟨w.heap.size, 0, none⟩)) (al' := some (a, wr, bt)) (ab' := [w.heap.size]) h ((((Mod.refl S w).setCell (.inl bS) _).setCell (.inl bS) _).alloc _)
        (by rw [Below.heap_alloc _ _ _ (by simpa using hb), h2]; simp [ho'])
        (fun k hk hkb => by rw [Below.heap_alloc _ _ _ (by simpa using hlt k hk), setCell_heap_ne hkb, setCell_heap_ne hkb])
        (.inr ⟨_, a, wr, bt, rfl, rfl, rfl, new_heap _ _ _ (by simp)⟩) (by simp) (by simp) (by intro x hx; cases hx; exact ⟨hp, ha⟩)
      exact ⟨S', rfl, by simpa [Dk.arm, ho, hp] using hd, hu⟩
    rw [ho'] at c2
    clear h h0 ho ho' hf hn hlt
    go_enter Tryz.func24, Tryz.ntmps24
    go_wp2
    go_end0
    exact Hend.out
  · have Hend : Hid (DkPost b (Dk.arm m a wr bt) (.tuple #[]) S w (.returned (.tuple #[])) (w.setCell ⟨b, 3, none⟩ (.pointer none))) := by
      have h1 := setCell_heap (i := 3) h.main (.pointer none)
      obtain ⟨S', hd, hu⟩ := alarm_end (w1 := w.setCell ⟨b, 3, none⟩ (.pointer none)) (av' := .pointer none) (al' := none) (ab' := []) h ((Mod.refl S w).setCell (.inl bS) _)
        (by rw [h1]; simp [ho']) (fun k hk hkb => by rw [setCell_heap_ne hkb]) (.inl ⟨rfl, rfl, rfl⟩) (by simp) (by simp) (by intro x hx; cases hx)
      exact ⟨S', rfl, by simpa [Dk.arm, ho, hp] using hd, hu⟩
    rw [ho'] at c2
    clear h h0 ho ho' hf hn hlt
    go_enter Tryz.func24, Tryz.ntmps24
    go_wp2
    go_end0
    exact Hend.out
set_option maxHeartbeats 1000000 in
theorem Arm_nil (a wr bt : Int) (w : World) : Calls Tryz.prog 24 #[.pointer none, .int .i64 a, .int .i64 wr, .int .i64 bt] w fun e w' => e = .returned (.tuple #[]) ∧ w' = w := by
  go_enter Tryz.func24, Tryz.ntmps24
  go_wp2
  refine bodyPost_ret (results_none rfl _ _ _) rfl ⟨rfl, rfl⟩

set_option maxHeartbeats 2000000 in
theorem Read_ok (b : Nat) (i : Nat) (m : Dm) (S : List Nat) (w : World) (h : DiskAt w b m S) (ho : m.off = false) (hi : i < m.st.length) (hl : m.q.length ≤ 1000000) :
    Calls Tryz.prog 32 #[.pointer (some ⟨b, 0, none⟩), .int .i64 (i : Int)] w fun e w' => e = .returned (.tuple #[.string (bs (Dk.look m i)), .int .i64 0]) ∧ Below w.heap.size w w' := by
  obtain ⟨sb, qv, av, ab, h⟩ := h
  have Hat := Lib.hid (at_ok b sb (i : Int) m S ab qv av w h ho (by omega) (by omega))
  obtain ⟨hb, c0, c1, _, _, _⟩ := h.cells
  have hf := h.few
  have hpa := pend_of_row h.row
  obtain ⟨a, cap, rfl, hcap, hq⟩ := hpa
  have Hq := Lib.hid hq
  have Hs := Lib.hid h.stab
  have Hlen := Lib.hid (length_flatten_of h.ok.1)
  have hsb := lt_of_block h.stab
  have Hwin := Lib.hid (flatten_window h.ok.1 hi)
  clear h hq ho
  go_enter Tryz.func32, Tryz.ntmps32
  go_wp2_with (go_at_call 67; refine Hat.out.mono ?_; rintro e w1 ⟨rfl, hb1⟩; obtain ⟨hc1, hf1, hz1⟩ := bcall hb1)
  obtain ⟨w2, hw2⟩ : ∃ w2 : World, w2 = w1.alloc (.cells #[.int .i64 ((i : Int) * 64), .int .i64 (((i : Int) + 1) * 64)] 86) := ⟨_, rfl⟩
  have hb2 : Below w.heap.size w w2 := by rw [hw2]; repeat (first | exact Below.refl _ _ | (refine Below.trans ?_ (hb1.mono (by have z0 := hb1.size; (try simp only [World.size_alloc, World.size_setCell, World.size_drew] at *); omega))) | (refine Below.drew ?_) | (refine Below.alloc ?_ (by have z0 := hb1.size; (try simp only [World.size_alloc, World.size_setCell, World.size_drew] at *); omega) _) | (refine Below.setCell ?_ (by have z0 := hb1.size; (try simp only [World.size_alloc, World.size_setCell, World.size_drew] at *); omega) _))
  have d0 : w2.cell? ⟨w1.heap.size, 0, none⟩ = some (.int .i64 ((i : Int) * 64)) := by rw [hw2]; simp
  have d1 : w2.cell? ⟨w1.heap.size, 1, none⟩ = some (.int .i64 (((i : Int) + 1) * 64)) := by rw [hw2]; simp
  have hbl : b < w2.heap.size := Nat.lt_of_lt_of_le hb hb2.size
  have c1' := (hb2.cell (p := ⟨b, 1, none⟩) hb).trans c1
  have c0' := (hb2.cell (p := ⟨b, 0, none⟩) hb).trans c0
  have hs2 := (hb2.block sb hsb).trans Hs.out
  have hq2 : m.q = [] ∨ ∃ g, a = some ⟨g, 0, none⟩ ∧ g < w2.heap.size ∧ ∀ (j : Nat) (p : Nat × Bytes), m.q[j]? = some p → w2.cell? ⟨g, j * 3, none⟩ = some (.int .i64 ((p.1 : Int) * 64)) ∧ w2.cell? ⟨g, j * 3 + 2, none⟩ = some (.string (bs p.2)) := by
    rcases Hq.out with h0 | ⟨g, hg, hgl, hc⟩
    · exact .inl h0
    · exact .inr ⟨g, hg, Nat.lt_of_lt_of_le hgl hb2.size, fun j p hp => ⟨(hb2.cell (p := ⟨g, _, none⟩) hgl).trans (hc j p hp).1, (hb2.cell (p := ⟨g, _, none⟩) hgl).trans (hc j p hp).2.2⟩⟩
  have hw1l : w1.heap.size < w2.heap.size := by rw [hw2]; simp
  have Hb2 := Lib.hid hb2
  have Hq2 := Lib.hid hq2
  have Hs2 := Lib.hid hs2
  have Hw2 := Lib.hid hw2.symm
  clear hc1 hf1 hz1 hb1 c0 c1 Hq Hs hq2 hs2 hb2
  have E : ∀ {p : Prop}, p → p := fun h => h
  simp only [← hw2]
  clear hw2
  go_wp2_with fail
  go_loopw [8] (fun z wr => ∃ k : Nat, k ≤ m.q.length ∧ z = .int .i64 ((k : Int) - 1) ∧ Hid (Below w2.heap.size w2 wr ∧ ∀ (j : Nat) (x : Nat × Bytes), k ≤ j → m.q[j]? = some x → x.1 ≠ i)) (fun z _ => ((intOf z) + 1).toNat)
  case atStart => exact ⟨m.q.length, Nat.le_refl _, rfl, Below.refl _ _, fun j x hj hx => by rw [List.getElem?_eq_none hj] at hx; cases hx⟩
  case round =>
    obtain ⟨k, hk, rfl, hr⟩ := hrel
    obtain ⟨hb3, hno⟩ := hr.out
    have d0' := (hb3.cell (p := ⟨w1.heap.size, 0, none⟩) hw1l).trans d0
    have d1' := (hb3.cell (p := ⟨w1.heap.size, 1, none⟩) hw1l).trans d1
    have e0 := (hb3.cell (p := ⟨b, 0, none⟩) hbl).trans c0'
    have e1 := (hb3.cell (p := ⟨b, 1, none⟩) hbl).trans c1'
    have hz := hb3.size
    have hbr : b < wr.heap.size := by omega
    have hwr : w1.heap.size < wr.heap.size := by omega
    have hsr := (hb3.block sb (lt_of_block Hs2.out)).trans Hs2.out
    have Hsr := Lib.hid hsr; clear hsr
    have Hno := Lib.hid hno; clear hno
    by_cases h0 : 0 < k
    · obtain ⟨k, rfl⟩ : ∃ j, k = j + 1 := ⟨k - 1, by omega⟩
      obtain ⟨p, hp⟩ : ∃ p, m.q[k]? = some p := ⟨m.q[k], List.getElem?_eq_getElem (by omega)⟩
      rcases Hq2.out with hn | ⟨g, rfl, hgl, hcell⟩
      · rw [hn] at hk; simp at hk
      obtain ⟨f1, f3⟩ := hcell k p hp
      rw [← hb3.cell (p := ⟨g, _, none⟩) hgl] at f1 f3
      have hgr : g < wr.heap.size := by omega
      have Hb3 := Lib.hid hb3; clear hb3 hcell
      have Hp := Lib.hid hp; clear hp hr
      by_cases heq : p.1 = i
      · have Hend : Hid (Dk.look m i = p.2) := look_found Hp.out heq fun j hj x hx => Hno.out j x (by omega) hx
        rw [heq] at f1
        clear heq
        go_wp2
        refine wp_region_can [] (List.range 12) (by kernel_rfl) (by kernel_rfl) ?_
        go_wp2_with (first | refine cl_nil ?_ | (refine cl_do rfl rfl rfl rfl (fun _ _ => ?_)))
        refine bodyPost_ret (results_tmp2 rfl _ _ _) (by rfl) ⟨?_, ?_⟩
        · have := Hend.out
          simp [go_sem, this]
        · have hx := Hb2.out
          have hy := Hb3.out
          repeat (first | exact Below.refl _ _ | (refine Below.trans ?_ (hy.mono (by have z0 := hy.size; have z1 := hx.size; (try simp only [World.size_alloc, World.size_setCell, World.size_drew] at *); omega))) | (refine Below.trans ?_ (hx.mono (by have z0 := hy.size; have z1 := hx.size; (try simp only [World.size_alloc, World.size_setCell, World.size_drew] at *); omega))) | (refine Below.drew ?_) | (refine Below.alloc ?_ (by have z0 := hy.size; have z1 := hx.size; (try simp only [World.size_alloc, World.size_setCell, World.size_drew] at *); omega) _) | (refine Below.setCell ?_ (by have z0 := hy.size; have z1 := hx.size; (try simp only [World.size_alloc, World.size_setCell, World.size_drew] at *); omega) _))
      · have hne : ¬ ((p.1 : Int) * 64 = (i : Int) * 64) := by omega
        go_wp2
        refine wp_region_can [] (List.range 12) (by kernel_rfl) (by kernel_rfl) ?_
        go_wp2_with (first | refine cl_nil ?_ | (refine cl_do rfl rfl rfl rfl (fun _ _ => ?_)))
        go_roundw
        case rel =>
          refine ⟨k, by omega, by go_num, ⟨Below.drew Hb3.out, fun j x hj hx => ?_⟩⟩
          by_cases hjk : j = k
          · subst hjk
            rw [Hp.out] at hx; cases hx
            exact heq
          · exact Hno.out j x (by omega) hx
        case measure => simp [intOf]
    · obtain rfl : k = 0 := by omega
      have hend : bs ((m.st.flatten.drop (i * 64)).take ((i + 1) * 64 - i * 64)) = bs (Dk.look m i) := by rw [show (i + 1) * 64 - i * 64 = 64 by omega, Hwin.out, look_none fun j x hx => Hno.out j x (Nat.zero_le _) hx]
      have Hend := Lib.hid hend; clear hend
      have Hb3 := Lib.hid hb3; clear hb3 hr
      have hc64 : ¬ (m.st.length * 64 = i * 64) := by omega
      go_wp2
      refine wp_region_can [] (List.range 12) (by kernel_rfl) (by kernel_rfl) ?_
      go_wp2_with (first | refine cl_nil ?_ | (refine cl_do (i := 9) rfl rfl rfl rfl (fun K hK => ?_); go_loud (refine wp_convert_text (.tmp 56) 56 9 (by rfl) 5 Tryz.underlying56 Tryz.underlying5 Tryz.underlying9 sb (i * 64) ((i + 1) * 64 - i * 64) (m.st.length * 64 - i * 64) m.st.flatten 5 (0, 0) (by rfl) (by exact Hsr.out) (by rw [Hlen.out]; omega) ?_)) | (refine cl_do rfl rfl rfl rfl (fun _ _ => ?_)))
      refine bodyPost_ret (results_tmp2 rfl _ _ _) (by rfl) ⟨?_, ?_⟩
      · have := Hend.out
        simp [go_sem, this]
      · have hx := Hb2.out
        have hy := Hb3.out
        repeat (first | exact Below.refl _ _ | (refine Below.trans ?_ (hy.mono (by have z0 := hy.size; have z1 := hx.size; (try simp only [World.size_alloc, World.size_setCell, World.size_drew] at *); omega))) | (refine Below.trans ?_ (hx.mono (by have z0 := hy.size; have z1 := hx.size; (try simp only [World.size_alloc, World.size_setCell, World.size_drew] at *); omega))) | (refine Below.drew ?_) | (refine Below.alloc ?_ (by have z0 := hy.size; have z1 := hx.size; (try simp only [World.size_alloc, World.size_setCell, World.size_drew] at *); omega) _) | (refine Below.setCell ?_ (by have z0 := hy.size; have z1 := hx.size; (try simp only [World.size_alloc, World.size_setCell, World.size_drew] at *); omega) _))

set_option maxHeartbeats 1000000 in
/-- What 'Read' answers when it reads nothing. -/
theorem Read_err (r : Option Addr) (s k : Int) (hk0 : 0 < k) (w : World)
    (Hat : Hid (Calls Tryz.prog 67 #[.pointer r, .int .i64 s] w fun e w' => e = .returned (.tuple #[.agg #[.int .i64 0, .int .i64 0], .int .i64 k]) ∧ Below w.heap.size w w')) :
    Calls Tryz.prog 32 #[.pointer r, .int .i64 s] w fun e w' => e = .returned (.tuple #[.string (bs []), .int .i64 k]) ∧ Below w.heap.size w w' := by
  have hk1 : k ≠ 0 := by omega
  have hk2 : (k != 0) = true := by simpa using hk1
  go_enter Tryz.func32, Tryz.ntmps32
  go_wp2_with (go_at_call 67; refine Hat.out.mono ?_; rintro e w1 ⟨rfl, hb1⟩; obtain ⟨hc1, hf1, hz1⟩ := bcall hb1)
  refine bodyPost_ret (results_tmp2 rfl _ _ _) (by rfl) ⟨?_, ?_⟩
  · simp [go_sem, bs]
  · repeat (first | exact Below.refl _ _ | (refine Below.trans ?_ (hb1.mono (by have z0 := hb1.size; (try simp only [World.size_alloc, World.size_setCell, World.size_drew] at *); omega))) | (refine Below.drew ?_) | (refine Below.alloc ?_ (by have z0 := hb1.size; (try simp only [World.size_alloc, World.size_setCell, World.size_drew] at *); omega) _) | (refine Below.setCell ?_ (by have z0 := hb1.size; (try simp only [World.size_alloc, World.size_setCell, World.size_drew] at *); omega) _))
theorem Read_c (b : Nat) (s : Int) (m : Dm) (S : List Nat) (w : World) (h : DiskAt w b m S) (hl : m.q.length ≤ 1000000) :
    Calls Tryz.prog 32 #[.pointer (some ⟨b, 0, none⟩), .int .i64 s] w fun e w' => e = .returned (.tuple #[.string (bs (Dk.read m s).1), .int .i64 (Dk.read m s).2]) ∧ Below w.heap.size w w' := by
  have h0 := h
  obtain ⟨sb, qv, av, ab, h⟩ := h
  unfold Dk.read
  by_cases ho : m.off = true
  · simp only [ho, if_true]
    exact Read_err _ s 26 (by omega) w (Lib.hid (at_off b sb s m S ab qv av w h ho))
  have ho' : m.off = false := by simpa using ho
  by_cases hv : s < 0 ∨ (m.st.length : Int) ≤ s
  · have hv' : valid m s = false := by simp only [valid, Bool.and_eq_false_iff, decide_eq_false_iff_not]; omega
    simp only [ho', hv', Bool.false_eq_true, if_false]
    exact Read_err _ s 1 (by omega) w (Lib.hid (at_bad b sb s m S ab qv av w h ho' hv))
  have hv' : valid m s = true := by simp only [valid, Bool.and_eq_true, decide_eq_true_eq]; omega
  obtain ⟨i, rfl⟩ : ∃ i : Nat, s = i := ⟨s.toNat, by omega⟩
  simp only [ho', hv', Bool.false_eq_true, if_false, if_true, Int.toNat_natCast]
  exact Read_ok b i m S w h0 ho' (by omega) hl
theorem Read_nil (s : Int) (w : World) :
    Calls Tryz.prog 32 #[.pointer none, .int .i64 s] w fun e w' => e = .returned (.tuple #[.string (bs []), .int .i64 1]) ∧ Below w.heap.size w w' :=
  Read_err _ s 1 (by omega) w (Lib.hid (at_nil s w))

set_option maxHeartbeats 1000000 in
theorem Rot_no (r : Option Addr) (s a k x y : Int) (ok : Bool) (hk : (ok && (decide (0 ≤ a) && (decide (a < 64) && (decide (0 < k) && decide (k < 256))))) = false) (w : World)
    (Hat : Hid (Calls Tryz.prog 65 #[.pointer r, .int .i64 s] w fun e w' => e = .returned (.tuple #[.agg #[.int .i64 x, .int .i64 y], .bool ok]) ∧ Below w.heap.size w w')) :
    Calls Tryz.prog 26 #[.pointer r, .int .i64 s, .int .i64 a, .int .i64 k] w fun e w' => e = .returned (.tuple #[]) ∧ Below w.heap.size w w' := by
  cases ok
  · go_enter Tryz.func26, Tryz.ntmps26
    go_wp2_with (go_at_call 65; refine Hat.out.mono ?_; rintro e w1 ⟨rfl, hb1⟩; obtain ⟨hc1, hf1, hz1⟩ := bcall hb1)
    go_end0
    exact ⟨rfl, by repeat (first | exact Below.refl _ _ | (refine Below.trans ?_ (hb1.mono (by have z0 := hb1.size; (try simp only [World.size_alloc, World.size_setCell, World.size_drew] at *); omega))) | (refine Below.drew ?_) | (refine Below.alloc ?_ (by have z0 := hb1.size; (try simp only [World.size_alloc, World.size_setCell, World.size_drew] at *); omega) _) | (refine Below.setCell ?_ (by have z0 := hb1.size; (try simp only [World.size_alloc, World.size_setCell, World.size_drew] at *); omega) _))⟩
  · by_cases h1 : 0 ≤ a
    · by_cases h2 : a < 64
      · by_cases h3 : 0 < k
        · have h4 : ¬ k < 256 := by simp [h1, h2, h3] at hk; omega
          go_enter Tryz.func26, Tryz.ntmps26
          go_wp2_with (go_at_call 65; refine Hat.out.mono ?_; rintro e w1 ⟨rfl, hb1⟩; obtain ⟨hc1, hf1, hz1⟩ := bcall hb1)
          go_end0
          exact ⟨rfl, by repeat (first | exact Below.refl _ _ | (refine Below.trans ?_ (hb1.mono (by have z0 := hb1.size; (try simp only [World.size_alloc, World.size_setCell, World.size_drew] at *); omega))) | (refine Below.drew ?_) | (refine Below.alloc ?_ (by have z0 := hb1.size; (try simp only [World.size_alloc, World.size_setCell, World.size_drew] at *); omega) _) | (refine Below.setCell ?_ (by have z0 := hb1.size; (try simp only [World.size_alloc, World.size_setCell, World.size_drew] at *); omega) _))⟩
        · go_enter Tryz.func26, Tryz.ntmps26
          go_wp2_with (go_at_call 65; refine Hat.out.mono ?_; rintro e w1 ⟨rfl, hb1⟩; obtain ⟨hc1, hf1, hz1⟩ := bcall hb1)
          go_end0
          exact ⟨rfl, by repeat (first | exact Below.refl _ _ | (refine Below.trans ?_ (hb1.mono (by have z0 := hb1.size; (try simp only [World.size_alloc, World.size_setCell, World.size_drew] at *); omega))) | (refine Below.drew ?_) | (refine Below.alloc ?_ (by have z0 := hb1.size; (try simp only [World.size_alloc, World.size_setCell, World.size_drew] at *); omega) _) | (refine Below.setCell ?_ (by have z0 := hb1.size; (try simp only [World.size_alloc, World.size_setCell, World.size_drew] at *); omega) _))⟩
      · go_enter Tryz.func26, Tryz.ntmps26
        go_wp2_with (go_at_call 65; refine Hat.out.mono ?_; rintro e w1 ⟨rfl, hb1⟩; obtain ⟨hc1, hf1, hz1⟩ := bcall hb1)
        go_end0
        exact ⟨rfl, by repeat (first | exact Below.refl _ _ | (refine Below.trans ?_ (hb1.mono (by have z0 := hb1.size; (try simp only [World.size_alloc, World.size_setCell, World.size_drew] at *); omega))) | (refine Below.drew ?_) | (refine Below.alloc ?_ (by have z0 := hb1.size; (try simp only [World.size_alloc, World.size_setCell, World.size_drew] at *); omega) _) | (refine Below.setCell ?_ (by have z0 := hb1.size; (try simp only [World.size_alloc, World.size_setCell, World.size_drew] at *); omega) _))⟩
    · go_enter Tryz.func26, Tryz.ntmps26
      go_wp2_with (go_at_call 65; refine Hat.out.mono ?_; rintro e w1 ⟨rfl, hb1⟩; obtain ⟨hc1, hf1, hz1⟩ := bcall hb1)
      go_end0
      exact ⟨rfl, by repeat (first | exact Below.refl _ _ | (refine Below.trans ?_ (hb1.mono (by have z0 := hb1.size; (try simp only [World.size_alloc, World.size_setCell, World.size_drew] at *); omega))) | (refine Below.drew ?_) | (refine Below.alloc ?_ (by have z0 := hb1.size; (try simp only [World.size_alloc, World.size_setCell, World.size_drew] at *); omega) _) | (refine Below.setCell ?_ (by have z0 := hb1.size; (try simp only [World.size_alloc, World.size_setCell, World.size_drew] at *); omega) _))⟩
theorem Rot_nil (s a k : Int) (w : World) :
    Calls Tryz.prog 26 #[.pointer none, .int .i64 s, .int .i64 a, .int .i64 k] w fun e w' => e = .returned (.tuple #[]) ∧ Below w.heap.size w w' :=
  Rot_no _ s a k 0 0 false rfl w (Lib.hid (place_nil s w))

theorem bits_xor (x : UInt8) (k : Nat) (hk : k < 256) : bits .xor .u8 (x.toNat : Int) (k : Int) = ((x ^^^ UInt8.ofNat k).toNat : Int) := by
  have h : (BitVec.ofNat 8 x.toNat ^^^ BitVec.ofNat 8 k).toNat = (x ^^^ UInt8.ofNat k).toNat := by
    simp [UInt8.toNat_xor]
  have hlt : (x ^^^ UInt8.ofNat k).toNat < 256 := (x ^^^ UInt8.ofNat k).toNat_lt
  have h2 : bits .xor .u8 (x.toNat : Int) (k : Int) = IntKind.u8.wrap ((BitVec.ofNat 8 x.toNat ^^^ BitVec.ofNat 8 k).toNat : Nat) := by
    simp only [bits, IntKind.bits, BitVec.ofInt_natCast]
    rfl
  rw [h2, h]
  generalize (x ^^^ UInt8.ofNat k).toNat = y at hlt
  simp [IntKind.wrap, IntKind.signed, IntKind.bits]
  omega
theorem rot_end {w w1 : World} {b sb i a k : Nat} {m : Dm} {S ab : List Nat} {qv av : Value} (h : DiskAt' w b m S sb qv av ab) (hb : Below w.heap.size w w1) (hi : i < m.st.length) (ha : a < 64) (hk0 : 0 < k) (hk : k < 256) {x : UInt8} (hx : m.st.flatten[i * 64 + a]? = some x) :
    DiskAt (w1.setCell ⟨sb, i * 64 + a, none⟩ (.int .u8 (bits .xor .u8 (x.toNat : Int) (k : Int)))) b (Dk.rot m i a k) S := by
  have hn := h.nodup
  rw [h.own] at hn
  have hbs : b ≠ sb := by simp at hn; exact hn.1.1
  have hqs : qv.ownBlock ≠ some sb := by intro e; rw [e] at hn; simp at hn
  have h1 := h.below hb
  have hr : rotOk m i a k = true := by simp [rotOk, valid]; omega
  have hs2 := setCell_heap (i := i * 64 + a) h1.stab (.int .u8 (bits .xor .u8 (x.toNat : Int) (k : Int)))
  have hl : i * 64 + a < m.st.flatten.length := (List.getElem?_eq_some_iff.1 hx).1
  have he : (bcells m.st.flatten).set (i * 64 + a) (.int .u8 (bits .xor .u8 (x.toNat : Int) (k : Int))) = bcells (Dk.rot m i a k).st.flatten := by
    rw [bits_xor x k hk]
    simp only [Dk.rot, hr, if_true, Int.toNat_natCast]
    rw [← modify_flatten h.ok.1 ha, List.modify_eq_set, hx]
    simp only [bcells, Option.map_some, Option.getD_some, List.map_set]
  have hq : (Dk.rot m i a k).q = m.q := by simp [Dk.rot, hr]
  refine ⟨sb, qv, av, ab, ⟨?_, ?_, by rw [hq]; exact ownsRow_setCell_other h1.row hqs _, ?_, h.own, h.nodup, ok_rot h.ok _ _ _, by rw [length_rot]; exact h.few⟩⟩
  · rw [setCell_heap_ne hbs, h1.main, length_rot]
    simp [Dk.rot, hr]
  · rw [hs2, ← he]
    simp
  · have hal : (Dk.rot m i a k).al = m.al := by simp [Dk.rot, hr]
    rw [hal]
    rcases h1.alarm with ha | ⟨g, x, y, z, e1, e2, e3, e4⟩
    · exact .inl ha
    · refine .inr ⟨g, x, y, z, e1, e2, e3, ?_⟩
      rw [setCell_heap_ne (by rw [e3] at hn; simp at hn; exact fun e => hn.2.1.2 e.symm)]
      exact e4
set_option maxRecDepth 5000 in
set_option maxHeartbeats 1000000 in
theorem Rot_ok (b : Nat) (i a k : Nat) (m : Dm) (S : List Nat) (w : World) (h : DiskAt w b m S) (hi : i < m.st.length) (ha : a < 64) (hk0 : 0 < k) (hk : k < 256) :
    Calls Tryz.prog 26 #[.pointer (some ⟨b, 0, none⟩), .int .i64 (i : Int), .int .i64 (a : Int), .int .i64 (k : Int)] w (DkPost b (Dk.rot m i a k) (.tuple #[]) S w) := by
  have h0 := h
  obtain ⟨sb, qv, av, ab, h⟩ := h
  obtain ⟨hb, c0, _, _, _, _⟩ := h.cells
  have hf := h.few
  have hsb := lt_of_block h.stab
  have Hs := Lib.hid h.stab
  have hlen := length_flatten_of h.ok.1
  have Hat := Lib.hid (place_ok b sb m.st.length i w hb c0 hf (by omega) (by omega))
  obtain ⟨x, hx⟩ : ∃ x, m.st.flatten[i * 64 + a]? = some x := ⟨_, List.getElem?_eq_getElem (by omega)⟩
  have s0 : w.cell? ⟨sb, i * 64 + a, none⟩ = some (.int .u8 (x.toNat : Int)) := by rw [cell_of_heap Hs.out]; simp only [bcells, List.getElem?_toArray, List.getElem?_map, hx, Option.map_some]
  have s1 : w.frozen? ⟨sb, i * 64 + a, none⟩ = false := free_of_heap Hs.out
  have sS : sb ∈ S := by rw [h.own]; simp
  have Hend := Lib.hid fun (w1 : World) (hb1 : Below w.heap.size w w1) => rot_end h hb1 hi ha hk0 hk hx
  clear h h0 hx hlen Hs
  generalize m.st.length = n at *
  go_enter Tryz.func26, Tryz.ntmps26
  go_wp2_with (go_at_call 65; refine Hat.out.mono ?_; rintro e w1 ⟨rfl, hb1⟩; obtain ⟨hc1, hf1, hz1⟩ := bcall hb1)
  refine wp_region_can [] (List.range 15) (by kernel_rfl) (by kernel_rfl) ?_
  go_wp2_with (first | refine cl_nil ?_ | (refine cl_do rfl rfl rfl rfl (fun _ _ => ?_)))
  have hz := hb1.size
  have HE := Hend.out w1 hb1
  have hu : Mod S w (w1.setCell ⟨sb, i * 64 + a, none⟩ (.int .u8 (bits .xor .u8 (x.toNat : Int) (k : Int)))) := (Mod.ofBelow hb1 S).setCell (.inl sS) _
  refine bodyPost_end (results_none rfl _ _ _) (by rfl) ⟨S, rfl, ?_, ?_⟩
  · exact (HE.below (Below.drew (Below.alloc (Below.refl _ _) (by simp) _)))
  · exact ⟨(hu.alloc _).drew, fun _ h => .inl h⟩
theorem Rot_c (b : Nat) (s a k : Int) (m : Dm) (S : List Nat) (w : World) (h : DiskAt w b m S) :
    Calls Tryz.prog 26 #[.pointer (some ⟨b, 0, none⟩), .int .i64 s, .int .i64 a, .int .i64 k] w (DkPost b (Dk.rot m s a k) (.tuple #[]) S w) := by
  have h0 := h
  obtain ⟨sb, qv, av, ab, h⟩ := h
  obtain ⟨hb, c0, _, _, _, _⟩ := h.cells
  by_cases hr : rotOk m s a k = true
  · simp only [rotOk, valid, Bool.and_eq_true, decide_eq_true_eq] at hr
    obtain ⟨i, rfl⟩ : ∃ i : Nat, s = i := ⟨s.toNat, by omega⟩
    obtain ⟨a, rfl⟩ : ∃ i : Nat, a = i := ⟨a.toNat, by omega⟩
    obtain ⟨k, rfl⟩ : ∃ i : Nat, k = i := ⟨k.toNat, by omega⟩
    exact Rot_ok b i a k m S w h0 (by omega) (by omega) (by omega) (by omega)
  · have hr' : rotOk m s a k = false := by simpa using hr
    have hm : Dk.rot m s a k = m := by simp [Dk.rot, hr']
    rw [hm]
    have fin : ∀ e w', (e = .returned (.tuple #[]) ∧ Below w.heap.size w w') → DkPost b m (.tuple #[]) S w e w' := by
      rintro e w' ⟨rfl, hb'⟩
      exact ⟨S, rfl, h0.below hb', Upd.ofBelow hb'⟩
    by_cases hv : s < 0 ∨ (m.st.length : Int) ≤ s
    · exact (Rot_no _ s a k 0 0 false rfl w (Lib.hid (place_bad b sb m.st.length s w hb c0 h.few hv))).mono fin
    · have hv' : valid m s = true := by simp only [valid, Bool.and_eq_true, decide_eq_true_eq]; omega
      simp only [rotOk, hv', Bool.true_and] at hr'
      exact (Rot_no _ s a k _ _ true (by simpa using hr') w (Lib.hid (place_ok b sb m.st.length s w hb c0 h.few (by omega) (by omega)))).mono fin

theorem info_byte : (Tryz.prog.info? 5).map (fun i => (i.zero, i.size, i.bytes)) = some (some (.int .u8 0), 1, 1) := by kernel_rfl
set_option maxHeartbeats 1000000 in
theorem New_bad (n : Int) (w : World) (hn : n < 1 ∨ 4000 < n) :
    Calls Tryz.prog 8 #[.int .i64 n] w fun e w' => e = .returned (.pointer none) ∧ w' = w := by
  rcases hn with hn | hn
  · go_enter Tryz.func8, Tryz.ntmps8
    go_wp2
    go_ret
    exact ⟨rfl, rfl⟩
  · have h1 : ¬ n < 1 := by omega
    go_enter Tryz.func8, Tryz.ntmps8
    go_wp2
    go_ret
    exact ⟨rfl, rfl⟩
/-- What 'New' leaves: a new disk in new blocks. -/
def NewPost (n : Nat) (w : World) (e : Ending) (w' : World) : Prop := ∃ b S, e = .returned (.pointer (some ⟨b, 0, none⟩)) ∧ DiskAt w' b (Dk.fresh n) S ∧ Below w.heap.size w w' ∧ ∀ k ∈ S, w.heap.size ≤ k
set_option maxHeartbeats 1000000 in
theorem New_c (n : Nat) (w : World) (h0 : 0 < n) (h1 : n ≤ 4000) : Calls Tryz.prog 8 #[.int .i64 (n : Int)] w (NewPost n w) := by
  have k1 : ¬ n < 1 := by omega
  have k2 : ¬ 4000 < n := by omega
  go_enter Tryz.func8, Tryz.ntmps8
  go_wp2_with (refine wpList_plain rfl fun K hK => wp_make (.tmp 10) (.tmp 10) 56 (by rfl) 5 (.int .u8 0) 1 1 Tryz.underlying56 info_byte (n * 64) (n * 64) (by go_num) (by go_num) (by omega) (by omega) (by omega) ?_)
  go_ret
  have hz : (madeCells #[Value.int .u8 0] (n * 64)) = (bcells (Dk.fresh n).st.flatten).toArray := by
    have : (Dk.fresh n).st.flatten = List.replicate (n * 64) 0 := List.flatten_replicate_replicate
    rw [this]
    apply Array.ext
    · simp [madeCells, bcells]
    · intro i h1 h2
      simp [madeCells, bcells, Nat.mod_one]
  have hl : (Dk.fresh n).st.length = n := by simp [Dk.fresh]
  rw [hz]
  refine ⟨w.heap.size + 1, [w.heap.size + 1, w.heap.size], rfl, ⟨w.heap.size, .slice none 0 0, .pointer none, [], ⟨?_, ?_, World.ownsRow_nil _ _ _ _, .inl ⟨rfl, rfl, rfl⟩, by simp [Value.ownBlock], by simp, ok_fresh n, by rw [hl]; exact h1⟩⟩, ?_, ?_⟩
  · rw [new_heap _ _ _ (by simp), hl]; rfl
  · rw [Below.heap_alloc _ _ _ (by simp), new_heap _ _ _ (by simp)]
  · repeat (first | exact Below.refl _ _ | (refine Below.drew ?_) | (refine Below.alloc ?_ (by (try simp only [World.size_alloc, World.size_setCell, World.size_drew] at *); omega) _) | (refine Below.setCell ?_ (by (try simp only [World.size_alloc, World.size_setCell, World.size_drew] at *); omega) _))
  · intro k hk; simp at hk; omega
end Go.Proofs.YtjcjpekndeoonaaGreatDoor
