/-
  The program's disk: 'Write', 'Sync', 'Read'.
-/
import Derived.Test.YtjcjpekndeoonaaGreatDoorDkOps
namespace Go.Proofs.YtjcjpekndeoonaaGreatDoor
open Go.RowKit Go.Cz Go.Cz.Dk
set_option linter.unusedSimpArgs false
set_option linter.unusedVariables false
attribute [local go_sem] bs_size bs_extract bs_append bs_toList

theorem info_pending : (Tryz.prog.info? 88).map (fun i => (i.zero, i.size, i.bytes)) = some (some (.agg #[.int .i64 0, .int .i64 0, .string ⟨#[]⟩]), 3, 32) := by kernel_rfl
theorem push_end {w W w2 : World} {b sb i : Nat} {m : Dm} {S ab : List Nat} {qv av v' : Value} {t : Bytes} (h : DiskAt' w b m S sb qv av ab) (hb : Below w.heap.size w W)
    (hrow : w2.ownsRow 0 88 3 v' (m.q.length + 1) (m.q.flatMap pcells ++ pcells (i, t))) (hgrow : W.grownBy w2 qv.ownBlock) (hblk : v'.ownBlock = qv.ownBlock ∨ v'.ownBlock = some W.heap.size)
    (hi : i < m.st.length) (ht : t.length = 64) :
    (∃ S', DiskAt' (w2.setCell ⟨b, 1, none⟩ v') b { m with q := m.q ++ [(i, t)] } S' sb v' av ab ∧ Upd S S' w (w2.setCell ⟨b, 1, none⟩ v')) ∧
    w2.heap[b]? = some (.cells #[.slice (some ⟨sb, 0, none⟩) (m.st.length * 64) (m.st.length * 64), qv, .bool m.off, av] 72 (0, 0)) := by
  have hlt := (show DiskAt w b m S from ⟨sb, qv, av, ab, h⟩).lt
  have hn := h.nodup
  rw [h.own] at hn
  have bS : b ∈ S := by rw [h.own]; simp
  have sS : sb ∈ S := by rw [h.own]; simp
  have hbs : b ≠ sb := by simp at hn; exact hn.1.1
  have keep : ∀ k, k < w.heap.size → some k ≠ qv.ownBlock → w2.heap[k]? = w.heap[k]? := fun k hk hne => (hgrow.block k (Nat.lt_of_lt_of_le hk hb.size) hne).trans (hb.block k hk)
  have hqb : some b ≠ qv.ownBlock := by intro e; rw [← e] at hn; simp at hn
  have hqs : some sb ≠ qv.ownBlock := by intro e; rw [← e] at hn; simp at hn
  have hmain := (keep b (hlt b bS) hqb).trans h.main
  refine ⟨⟨b :: sb :: (v'.ownBlock.toList ++ ab), ⟨?_, ?_, ?_, ?_, rfl, ?_, ?_, h.few⟩, ?_, ?_⟩, hmain⟩
  · rw [setCell_heap hmain]; simp
  · rw [setCell_heap_ne (Ne.symm hbs)]; exact (keep sb (hlt sb sS) hqs).trans h.stab
  · have := ownsRow_setCell_other hrow (a := ⟨b, 1, none⟩) (by
      rcases hblk with e | e
      · rw [e]; exact Ne.symm hqb
      · rw [e]; have := hlt b bS; have := hb.size; simp; omega) v'
    simpa using this
  · rcases h.alarm with ha | ⟨g, x, y, z, h1, h2, h3, h4⟩
    · exact .inl ha
    · have gS : g ∈ S := by rw [h.own, h3]; simp
      refine .inr ⟨g, x, y, z, h1, h2, h3, ?_⟩
      rw [setCell_heap_ne (by rw [h3] at hn; simp at hn; exact fun e => hn.1.2.2 e.symm)]
      exact (keep g (hlt g gS) (by intro e; rw [h3, ← e] at hn; simp at hn)).trans h4
  · rcases hblk with e | e
    · rw [e]; exact hn
    · rw [e]
      have fresh : ∀ k ∈ S, k ≠ W.heap.size := fun k hk => by have := hlt k hk; have := hb.size; omega
      have hab : ∀ k ∈ ab, k ≠ W.heap.size := fun k hk => fresh k (by rw [h.own]; simp [hk])
      have h1 := fresh b bS
      have h2 := fresh sb sS
      obtain ⟨n1, hn⟩ := List.nodup_cons.1 hn
      obtain ⟨n2, hn⟩ := List.nodup_cons.1 hn
      have n3 := (List.nodup_append.1 hn).2.1
      simp at n1 n2
      refine List.nodup_cons.2 ⟨by simp; exact ⟨n1.1, h1, n1.2.2⟩, List.nodup_cons.2 ⟨by simp; exact ⟨h2, n2.2⟩, List.nodup_cons.2 ⟨fun hk => hab _ hk rfl, n3⟩⟩⟩
  · refine ⟨h.ok.1, ?_, h.ok.2.2⟩
    intro p hp
    rcases List.mem_append.1 hp with hp | hp
    · exact h.ok.2.1 p hp
    · simp at hp; subst hp; exact ⟨hi, ht⟩
  · refine Mod.setCell (Mod.grown (Mod.ofBelow hb S) hgrow fun k hk => .inl ?_) (.inl bS) _
    rw [h.own]; simp [hk]
  · intro k hk
    rcases List.mem_cons.1 hk with rfl | hk
    · exact .inl bS
    rcases List.mem_cons.1 hk with rfl | hk
    · exact .inl sS
    rcases List.mem_append.1 hk with hk | hk
    · rcases hblk with e | e
      · rw [e] at hk; left; rw [h.own]; simp at hk ⊢; exact .inr (.inr (.inl hk))
      · rw [e] at hk; simp at hk; subst hk; exact .inr hb.size
    · left; rw [h.own]; simp [hk]

set_option maxHeartbeats 2000000 in
theorem Write_ok (b : Nat) (i : Nat) (t : Bytes) (m : Dm) (S : List Nat) (w : World) (h : DiskAt w b m S) (ho : m.off = false) (hi : i < m.st.length) (ht : t.length = 64) (hl : m.q.length ≤ 100000) :
    Calls Tryz.prog 76 #[.pointer (some ⟨b, 0, none⟩), .int .i64 (i : Int), .string (bs t)] w (DkPost b (Dk.count { m with q := m.q ++ [(i, t)] }).1 (.int .i64 (Dk.count { m with q := m.q ++ [(i, t)] }).2) S w) := by
  obtain ⟨sb, qv, av, ab, h⟩ := h
  have ht' : ((t.length : Int) != 64) = false := by rw [ht]; rfl
  have Hat := Lib.hid (at_ok b sb (i : Int) m S ab qv av w h ho (by omega) (by omega))
  have Hrow : Hid (∀ W, Below w.heap.size w W → W.ownsRow 0 88 3 qv m.q.length (m.q.flatMap pcells)) := fun W hW => (h.below hW).row
  have Hpush : Hid (∀ W w2 v', Below w.heap.size w W → w2.ownsRow 0 88 3 v' (m.q.length + 1) (m.q.flatMap pcells ++ pcells (i, t)) → W.grownBy w2 qv.ownBlock → (v'.ownBlock = qv.ownBlock ∨ v'.ownBlock = some W.heap.size) → _) :=
    fun W w2 v' hb h1 h2 h3 => push_end h hb h1 h2 h3 hi ht
  have Hc1 := Lib.hid h.cells
  have hb := lt_of_block h.main
  have Hm := Lib.hid h.main
  have Hlen := Lib.hid ht
  clear h ho ht
  go_enter Tryz.func76, Tryz.ntmps76
  go_wp2_with (go_at_call 67; refine Hat.out.mono ?_; rintro e w1 ⟨rfl, hb1⟩; have c1 := (hb1.cell (p := ⟨b, 1, none⟩) hb).trans Hc1.out.2.2.1; have hbl : b < w1.heap.size := Nat.lt_of_lt_of_le hb hb1.size; have Hb1 := Lib.hid hb1; clear hb1)
  refine wp_region_can [] (List.range 13) (by kernel_rfl) (by kernel_rfl) ?_
  go_wp2_with (first | refine cl_nil ?_ | (refine cl_do (i := 9) rfl rfl rfl rfl (fun K hK => ?_); go_loud (refine wp_append (.tmp 25) (.tmp 29) 69 (by rfl) 88 _ 3 32 Tryz.underlying69 info_pending (by rfl) (by omega) qv m.q.length (m.q.flatMap pcells) (by rfl) (Hrow.out _ (by repeat (first | exact Below.refl _ _ | (refine Below.trans ?_ (Hb1.out.mono (by have z0 := Hb1.out.size; (try simp only [World.size_alloc, World.size_setCell, World.size_drew] at *); omega))) | (refine Below.drew ?_) | (refine Below.alloc ?_ (by have z0 := Hb1.out.size; (try simp only [World.size_alloc, World.size_setCell, World.size_drew] at *); omega) _) | (refine Below.setCell ?_ (by have z0 := Hb1.out.size; (try simp only [World.size_alloc, World.size_setCell, World.size_drew] at *); omega) _)))) (w1.heap.size + 1) 1 1 (pcells (i, t)) (by rfl) (by rfl) 88 (by exact new_heap (w1.alloc _) _ _ (by simp)) (by simp [pcells, Value.oneCell']) (by omega) (by omega) ?_); intro v' w2 hrow hgrow hblk; obtain ⟨g', cap', rfl⟩ := row_form hrow; have hp := Hpush.out _ w2 _ (by repeat (first | exact Below.refl _ _ | (refine Below.trans ?_ (Hb1.out.mono (by have z0 := Hb1.out.size; (try simp only [World.size_alloc, World.size_setCell, World.size_drew] at *); omega))) | (refine Below.drew ?_) | (refine Below.alloc ?_ (by have z0 := Hb1.out.size; (try simp only [World.size_alloc, World.size_setCell, World.size_drew] at *); omega) _) | (refine Below.setCell ?_ (by have z0 := Hb1.out.size; (try simp only [World.size_alloc, World.size_setCell, World.size_drew] at *); omega) _))) hrow hgrow hblk; clear hrow hgrow hblk; obtain ⟨hb2, e0, e1, e2, e3, f1, f2, f3⟩ := mainfacts hp.2; have Hp := Lib.hid hp.1; clear hp c1) | (refine cl_do rfl rfl rfl rfl (fun _ _ => ?_)))
  obtain ⟨S1, hd1, hu1⟩ := Hp.out
  refine (count_c b _ S1 _ ⟨sb, _, av, ab, hd1⟩ (by simp; omega)).mono ?_
  rintro e w3 ⟨S2, rfl, hd2, hu2⟩
  have Hend : Hid (DkPost b (Dk.count { m with q := m.q ++ [(i, t)] }).1 (.int .i64 (Dk.count { m with q := m.q ++ [(i, t)] }).2) S w (.returned (.int .i64 (Dk.count { m with q := m.q ++ [(i, t)] }).2)) w3) := ⟨S2, rfl, hd2, hu1.trans hu2⟩
  clear hd1 hd2 hu1 hu2 Hp e0 e1 e2 e3 f1 f2 f3
  generalize (Dk.count { m with q := m.q ++ [(i, t)] }).2 = r at *
  go_wp2
  go_ret
  exact Hend.out
theorem Write_c (b : Nat) (s : Int) (t : Bytes) (m : Dm) (S : List Nat) (w : World) (h : DiskAt w b m S) (hl : m.q.length ≤ 100000) :
    Calls Tryz.prog 76 #[.pointer (some ⟨b, 0, none⟩), .int .i64 s, .string (bs t)] w (DkPost b (Dk.write m s t).1 (.int .i64 (Dk.write m s t).2) S w) := by
  have h0 := h
  obtain ⟨sb, qv, av, ab, h⟩ := h
  by_cases ho : m.off = true
  · refine (Write_off b sb s t m S ab qv av w h ho).mono ?_
    rintro e w' ⟨rfl, hb⟩
    exact ⟨S, by simp [Dk.write, ho], by simpa [Dk.write, ho] using h0.below hb, Upd.ofBelow hb⟩
  have ho' : m.off = false := by simpa using ho
  by_cases hv : s < 0 ∨ (m.st.length : Int) ≤ s
  · have hv' : valid m s = false := by simp only [valid, Bool.and_eq_false_iff, decide_eq_false_iff_not]; omega
    refine (Write_bad b sb s t m S ab qv av w h ho' hv).mono ?_
    rintro e w' ⟨rfl, hb⟩
    exact ⟨S, by simp [Dk.write, ho, hv'], by simpa [Dk.write, ho, hv'] using h0.below hb, Upd.ofBelow hb⟩
  have hv' : valid m s = true := by simp only [valid, Bool.and_eq_true, decide_eq_true_eq]; omega
  by_cases ht : t.length = 64
  · obtain ⟨i, rfl⟩ : ∃ i : Nat, s = i := ⟨s.toNat, by omega⟩
    have he : Dk.write m i t = Dk.count { m with q := m.q ++ [(i, t)] } := by simp [Dk.write, ho, hv', ht]
    rw [he]
    exact Write_ok b i t m S w h0 ho' (by omega) ht hl
  · refine (Write_len b sb s t m S ab qv av w h ho' (by omega) (by omega) ht).mono ?_
    rintro e w' ⟨rfl, hb⟩
    exact ⟨S, by simp [Dk.write, ho, hv', ht], by simpa [Dk.write, ho, hv', ht] using h0.below hb, Upd.ofBelow hb⟩
set_option maxHeartbeats 1000000 in
theorem Write_nil (s : Int) (t : Bytes) (w : World) :
    Calls Tryz.prog 76 #[.pointer none, .int .i64 s, .string (bs t)] w fun e w' => e = .returned (.int .i64 1) ∧ Below w.heap.size w w' := by
  go_enter Tryz.func76, Tryz.ntmps76
  go_wp2_with (go_at_call 67; refine (at_nil s _).mono ?_; rintro e w1 ⟨rfl, hb1⟩; obtain ⟨hc1, hf1, hz1⟩ := bcall hb1)
  go_ret
  refine ⟨rfl, ?_⟩
  repeat (first | exact Below.refl _ _ | (refine Below.trans ?_ (hb1.mono (by have z0 := hb1.size; (try simp only [World.size_alloc, World.size_setCell, World.size_drew] at *); omega))) | (refine Below.drew ?_) | (refine Below.alloc ?_ (by have z0 := hb1.size; (try simp only [World.size_alloc, World.size_setCell, World.size_drew] at *); omega) _) | (refine Below.setCell ?_ (by have z0 := hb1.size; (try simp only [World.size_alloc, World.size_setCell, World.size_drew] at *); omega) _))

/-- The queue is given up. -/
theorem clear_end {w : World} {b sb : Nat} {m : Dm} {S ab : List Nat} {qv av : Value} {st : List Bytes} (h : DiskAt' w b m S sb qv av ab) {w1 : World} (hm : Mod [sb] w w1) (hs : w1.heap[sb]? = some (.cells (bcells st.flatten).toArray 5 (0, 0)))
    (hlen : st.length = m.st.length) (hok : ∀ s ∈ st, s.length = 64) :
    (∃ S', DiskAt (w1.setCell ⟨b, 1, none⟩ (.slice none 0 0)) b { m with st := st, q := [] } S' ∧ Upd S S' w (w1.setCell ⟨b, 1, none⟩ (.slice none 0 0))) ∧
    w1.heap[b]? = some (.cells #[.slice (some ⟨sb, 0, none⟩) (m.st.length * 64) (m.st.length * 64), qv, .bool m.off, av] 72 (0, 0)) := by
  have hn := h.nodup
  rw [h.own] at hn
  have bS : b ∈ S := by rw [h.own]; simp
  have sS : sb ∈ S := by rw [h.own]; simp
  have hbs : b ≠ sb := by simp at hn; exact hn.1.1
  have hmain := hm.heap h.main (by simpa using hbs)
  refine ⟨⟨b :: sb :: ab, ⟨sb, .slice none 0 0, av, ab, ⟨?_, ?_, World.ownsRow_nil _ _ _ _, ?_, by simp [Value.ownBlock], ?_, ⟨hok, by simp, h.ok.2.2⟩, by rw [hlen]; exact h.few⟩⟩, ?_, ?_⟩, hmain⟩
  · rw [setCell_heap hmain]; simp [hlen]
  · rw [setCell_heap_ne (Ne.symm hbs)]; exact hs
  · rcases h.alarm with ha | ⟨g, x, y, z, h1, h2, h3, h4⟩
    · exact .inl ha
    · refine .inr ⟨g, x, y, z, h1, h2, h3, ?_⟩
      rw [setCell_heap_ne (by rw [h3] at hn; simp at hn; exact fun e => hn.1.2.2 e.symm)]
      exact hm.heap h4 (by rw [h3] at hn; simp at hn ⊢; exact fun e => hn.2.1.2 e.symm)
  · obtain ⟨n1, hn⟩ := List.nodup_cons.1 hn
    obtain ⟨n2, hn⟩ := List.nodup_cons.1 hn
    have n3 := (List.nodup_append.1 hn).2.1
    simp at n1 n2
    exact List.nodup_cons.2 ⟨by simp; exact ⟨n1.1, n1.2.2⟩, List.nodup_cons.2 ⟨n2.2, n3⟩⟩
  · exact (hm.mono (S' := S) (by simpa using fun _ => sS)).setCell (.inl bS) _
  · intro k hk
    left
    rw [h.own]
    simp at hk ⊢
    rcases hk with rfl | rfl | hk
    · simp
    · simp
    · simp [hk]

set_option maxHeartbeats 2000000 in
theorem Sync_c (b : Nat) (m : Dm) (S : List Nat) (w : World) (h : DiskAt w b m S) (hl : m.q.length ≤ 100000) :
    Calls Tryz.prog 77 #[.pointer (some ⟨b, 0, none⟩)] w (DkPost b (Dk.sync m).1 (.int .i64 (Dk.sync m).2) S w) := by
  have h0 := h
  obtain ⟨sb, qv, av, ab, h⟩ := h
  obtain ⟨hb, _, _, c2, _, _⟩ := h.cells
  by_cases ho : m.off = true
  · have Hend : Hid (DkPost b (Dk.sync m).1 (.int .i64 (Dk.sync m).2) S w (.returned (.int .i64 26)) w) := ⟨S, by simp [Dk.sync, ho], by simpa [Dk.sync, ho] using h0, Upd.refl _ _⟩
    rw [ho] at c2
    clear h h0 ho
    go_enter Tryz.func77, Tryz.ntmps77
    go_wp2
    go_ret
    exact Hend.out
  have ho' : m.off = false := by simpa using ho
  rw [ho'] at c2
  have Hcount := Lib.hid (count_c b m S w h0 (by omega))
  by_cases hc : (Dk.count m).2 = 0
  · have he : Dk.sync m = ({ (Dk.count m).1 with st := Dk.settle (Dk.count m).1.st (Dk.count m).1.q, q := [] }, 0) := by simp [Dk.sync, ho, hc]
    have Hm' : Hid ((Dk.count m).1.q.length ≤ 100000) := by
      show (Dk.count m).1.q.length ≤ 100000
      unfold Dk.count
      split
      · exact hl
      · split
        · exact hl
        · unfold Dk.fail; split <;> simp [hl]
    rw [he]
    have Hc := Lib.hid hc
    clear h h0 ho hc he
    go_enter Tryz.func77, Tryz.ntmps77
    go_wp2_with fail
    refine Hcount.out.mono ?_
    rintro e w1 ⟨S1, rfl, ⟨sb1, qv1, av1, ab1, hd1⟩, hu1⟩
    rw [Hc.out]
    clear Hcount
    generalize (Dk.count m).1 = m1 at *
    obtain ⟨hb1, c0, c1, _, _, _⟩ := hd1.cells
    have hpa := pend_of_row hd1.row
    obtain ⟨a, cap, rfl, hcap, hq⟩ := hpa
    have hbs : b ≠ sb1 := by have := hd1.nodup; rw [hd1.own] at this; simp at this; exact this.1.1
    have hgs : ∀ g, (Value.slice a m1.q.length cap).ownBlock = some g → g ≠ sb1 := by
      intro g hg e
      have := hd1.nodup
      rw [hd1.own, hg, e] at this
      simp at this
    have Hset := Lib.hid (settle_c b sb1 m1.st m1.q (.slice a m1.q.length cap) w1 hb1 hbs c0 hd1.stab hd1.ok.1 hd1.few (pend_of_row hd1.row) (by have := Hm'.out; omega) hd1.ok.2.1 hgs)
    have Hd1 := Lib.hid hd1
    have Hu1 := Lib.hid hu1
    clear hd1 hu1 hq hgs hcap c0
    go_wp2_with fail
    refine Hset.out.mono ?_
    rintro e w2 ⟨rfl, hm2, hs2⟩
    obtain ⟨⟨S2, hd2, hu2⟩, hmain2⟩ := clear_end Hd1.out hm2 hs2 (length_settle _ _) (settle_all _ _ Hd1.out.ok.1 fun p hp => (Hd1.out.ok.2.1 p hp).2)
    obtain ⟨hb2, e0, e1, e2, e3, f1, f2, f3⟩ := mainfacts hmain2
    have Hend : Hid (DkPost b { m1 with st := Dk.settle m1.st m1.q, q := [] } (.int .i64 0) S w (.returned (.int .i64 0)) (w2.setCell ⟨b, 1, none⟩ (.slice none 0 0))) := ⟨S2, rfl, hd2, Hu1.out.trans hu2⟩
    clear hd2 hu2 hm2 hs2 hmain2 c1
    go_wp2
    go_ret
    exact Hend.out
  · have he : Dk.sync m = Dk.count m := by simp [Dk.sync, ho, hc]
    have hc' : ((Dk.count m).2 != 0) = true := by simpa using hc
    rw [he]
    clear h h0 ho hc he
    go_enter Tryz.func77, Tryz.ntmps77
    go_wp2_with fail
    refine Hcount.out.mono ?_
    rintro e w1 ⟨S1, rfl, hd1, hu1⟩
    have Hend : Hid (DkPost b (Dk.count m).1 (.int .i64 (Dk.count m).2) S w (.returned (.int .i64 (Dk.count m).2)) w1) := ⟨S1, rfl, hd1, hu1⟩
    clear hd1 hu1 Hcount
    generalize (Dk.count m).2 = r at *
    go_wp2
    go_ret
    exact Hend.out
set_option maxHeartbeats 1000000 in
theorem Sync_nil (w : World) : Calls Tryz.prog 77 #[.pointer none] w fun e w' => e = .returned (.int .i64 1) ∧ w' = w := by
  go_enter Tryz.func77, Tryz.ntmps77
  go_wp2
  go_ret
  exact ⟨rfl, rfl⟩
end Go.Proofs.YtjcjpekndeoonaaGreatDoor
