/-
  The program's disk: 'Fail', 'count', 'Write', 'Sync'.
-/
import Derived.Test.YtjcjpekndeoonaaGreatDoorDkSet
namespace Go.Proofs.YtjcjpekndeoonaaGreatDoor
open Go.RowKit Go.Cz Go.Cz.Dk
set_option linter.unusedSimpArgs false
set_option linter.unusedVariables false
attribute [local go_sem] bs_size bs_extract bs_append bs_toList

theorem flat_get : ∀ (q : List (Nat × Bytes)) (j i : Nat) (p : Nat × Bytes), q[j]? = some p → i < 3 → (q.flatMap pcells)[j * 3 + i]? = (pcells p)[i]?
  | [], j, i, p, h, _ => by simp at h
  | x :: q, 0, i, p, h, hi => by
    simp at h; subst h
    rw [List.flatMap_cons, List.getElem?_append_left (by simp [pcells]; omega)]
    simp
  | x :: q, j + 1, i, p, h, hi => by
    rw [List.flatMap_cons, List.getElem?_append_right (by simp [pcells]; omega)]
    rw [← flat_get q j i p (by simpa using h) hi]
    congr 1
    simp [pcells]; omega
theorem pend_of_row {w : World} {v : Value} {q : List (Nat × Bytes)} (h : w.ownsRow 0 88 3 v q.length (q.flatMap pcells)) : PendAt w v q := by
  rcases h.2 with ⟨rfl, hn⟩ | ⟨g, cap, cur, rfl, _, hg, hnc, hcm, hcs, htake⟩
  · exact ⟨none, 0, by rw [hn], by omega, .inl (List.eq_nil_of_length_eq_zero hn)⟩
  · refine ⟨_, cap, rfl, hnc, .inr ⟨g, rfl, lt_of_block hg, fun j p hp => ?_⟩⟩
    have hj : j < q.length := (List.getElem?_eq_some_iff.1 hp).1
    have key : ∀ i, i < 3 → w.cell? ⟨g, j * 3 + i, none⟩ = (pcells p)[i]? := fun i hi => by
      rw [h.cellAt (j * 3 + i) (by omega), flat_get q j i p hp hi]
    exact ⟨by simpa [pcells] using key 0 (by omega), by simpa [pcells] using key 1 (by omega), by simpa [pcells] using key 2 (by omega)⟩
theorem PendAt.take {w : World} {a : Option Addr} {cap : Nat} {q : List (Nat × Bytes)} (h : PendAt w (.slice a q.length cap) q) {n : Nat} (hn : n ≤ q.length) : PendAt w (.slice a n cap) (q.take n) := by
  obtain ⟨a', cap', he, hc, hq⟩ := h
  simp only [Value.slice.injEq, true_and] at he
  obtain ⟨rfl, rfl⟩ := he
  refine ⟨a, cap, by rw [List.length_take, Nat.min_eq_left hn], by rw [List.length_take]; omega, ?_⟩
  rcases hq with rfl | ⟨g, rfl, hg, hc⟩
  · exact .inl (by simp)
  · refine .inr ⟨g, rfl, hg, fun j p hp => hc j p ?_⟩
    rw [List.getElem?_take] at hp
    split at hp
    · exact hp
    · cases hp
theorem fail_end {b sb : Nat} {st : List Bytes} {x1 x2 x3 : Value} {w : World} (hm : w.heap[b]? = some (.cells #[.slice (some ⟨sb, 0, none⟩) (st.length * 64) (st.length * 64), x1, x2, x3] 72 (0, 0)))
    (hs : w.heap[sb]? = some (.cells (bcells st.flatten).toArray 5 (0, 0))) (hbs : b ≠ sb) (hok : ∀ s ∈ st, s.length = 64) (hf : st.length ≤ 4000) :
    DiskAt' (((w.setCell ⟨b, 1, none⟩ (.slice none 0 0)).setCell ⟨b, 2, none⟩ (.bool true)).setCell ⟨b, 3, none⟩ (.pointer none)) b { st := st, q := [], off := true, al := none } [b, sb] sb (.slice none 0 0) (.pointer none) [] := by
  have h1 := setCell_heap (i := 1) hm (.slice none 0 0)
  have h2 := setCell_heap (i := 2) h1 (.bool true)
  have h3 := setCell_heap (i := 3) h2 (.pointer none)
  refine ⟨by rw [h3]; simp, ?_, World.ownsRow_nil _ _ _ _, .inl ⟨rfl, rfl, rfl⟩, by simp [Value.ownBlock], by simpa using hbs, ⟨hok, by simp, by simp⟩, hf⟩
  rw [setCell_heap_ne (Ne.symm hbs), setCell_heap_ne (Ne.symm hbs), setCell_heap_ne (Ne.symm hbs)]
  exact hs
theorem mainfacts {w : World} {b : Nat} {x0 x1 x2 x3 : Value} {t : TypeId} (h : w.heap[b]? = some (.cells #[x0, x1, x2, x3] t (0, 0))) :
    b < w.heap.size ∧ w.cell? ⟨b, 0, none⟩ = some x0 ∧ w.cell? ⟨b, 1, none⟩ = some x1 ∧ w.cell? ⟨b, 2, none⟩ = some x2 ∧ w.cell? ⟨b, 3, none⟩ = some x3 ∧
    w.frozen? ⟨b, 1, none⟩ = false ∧ w.frozen? ⟨b, 2, none⟩ = false ∧ w.frozen? ⟨b, 3, none⟩ = false :=
  ⟨lt_of_block h, by rw [cell_of_heap h]; simp, by rw [cell_of_heap h]; simp, by rw [cell_of_heap h]; simp, by rw [cell_of_heap h]; simp, free_of_heap h, free_of_heap h, free_of_heap h⟩
theorem fail_mod {b : Nat} {S : List Nat} {w w1 : World} (h : Mod S w w1) (hb : b ∈ S) :
    Mod S w (((w1.setCell ⟨b, 1, none⟩ (.slice none 0 0)).setCell ⟨b, 2, none⟩ (.bool true)).setCell ⟨b, 3, none⟩ (.pointer none)) :=
  ((h.setCell (.inl hb) _).setCell (.inl hb) _).setCell (.inl hb) _

theorem modify_nil (st : List Bytes) (i : Nat) : st.modify i (fun s => s) = st := by
  apply List.ext_getElem?
  intro k
  rw [List.getElem?_modify]
  cases st[k]? <;> simp
set_option maxHeartbeats 2000000 in
theorem Fail_on (b sb : Nat) (wr bt : Int) (m : Dm) (S ab : List Nat) (qv av : Value) (w : World) (h : DiskAt' w b m S sb qv av ab) (ho : m.off = false) (hl : m.q.length ≤ 1000000) :
    Calls Tryz.prog 20 #[.pointer (some ⟨b, 0, none⟩), .int .i64 wr, .int .i64 bt] w fun e w' => e = .returned (.tuple #[]) ∧ Mod S w w' ∧ DiskAt' w' b (Dk.fail m wr bt) [b, sb] sb (.slice none 0 0) (.pointer none) [] := by
  obtain ⟨hb, c0, c1, c2, c3, hfz⟩ := h.cells
  rw [ho] at c2
  have f1 := hfz 1
  have f2 := hfz 2
  have f3 := hfz 3
  clear hfz
  have hpa := pend_of_row h.row
  obtain ⟨a, cap, rfl, hcap, hq⟩ := hpa
  have hpa := pend_of_row h.row
  obtain ⟨N, hN⟩ : ∃ N, N = clamp wr m.q.length := ⟨_, rfl⟩
  have hNl : N ≤ m.q.length := by rw [hN]; exact clamp_le _ _
  have eN : min (max wr 0) (m.q.length : Int) = (N : Int) := by rw [hN]; unfold clamp; omega
  have hbs : b ≠ sb := by have := h.nodup; rw [h.own] at this; simp at this; exact this.1.1
  have hSb : b ∈ S := by rw [h.own]; simp
  have hSs : sb ∈ S := by rw [h.own]; simp
  have hgs : ∀ g, (Value.slice a N cap).ownBlock = some g → g ≠ sb ∧ g ≠ b := by
    intro g hg
    have := h.nodup
    rw [h.own] at this
    cases a with
    | none => simp [Value.ownBlock] at hg
    | some ad =>
      simp [Value.ownBlock] at hg this
      subst hg
      exact ⟨fun e => by rw [e] at this; simp at this, fun e => by rw [e] at this; simp at this⟩
  have H := Lib.hid h; clear h
  have HN := Lib.hid hN; clear hN
  have Hpa := Lib.hid (hpa.take hNl); clear hpa
  have Hq := Lib.hid hq; clear hq
  have Hgs := Lib.hid hgs; clear hgs
  have Hset := Lib.hid (settle_c b sb m.st (m.q.take N) (.slice a N cap) w hb hbs c0 H.out.stab H.out.ok.1 H.out.few Hpa.out (by rw [List.length_take]; omega) (fun p hp => H.out.ok.2.1 p (List.mem_of_mem_take hp)) (fun g hg => (Hgs.out g hg).1))
  have Hc0 := Lib.hid c0; clear c0
  clear f1 f2 f3
  by_cases hlt : N < m.q.length
  · obtain ⟨p, hp⟩ : ∃ p, m.q[N]? = some p := ⟨m.q[N], List.getElem?_eq_getElem hlt⟩
    rcases Hq.out with h0 | ⟨g, rfl, hgl, hcell⟩
    · rw [h0] at hlt; simp at hlt
    obtain ⟨d1, d2, d3⟩ := hcell N p hp
    obtain ⟨hg1, hg2⟩ := Hgs.out g rfl
    have hpl := H.out.ok.2.1 p (List.mem_of_getElem? hp)
    have hp1 := hpl.1
    have Hp2 := Lib.hid hpl.2
    have Hp := Lib.hid hp; clear hp hcell hpl
    obtain ⟨K, hK⟩ : ∃ K, K = clamp bt 64 := ⟨_, rfl⟩
    have eK : min (max bt 0) 64 = (K : Int) := by rw [hK]; unfold clamp; omega
    have hK64 : K ≤ 64 := by rw [hK]; exact clamp_le _ _
    have HK := Lib.hid hK; clear hK
    have hKp : K ≤ p.2.length := by rw [Hp2.out]; exact hK64
    have Hfin : ∀ w2 : World, Hid (Mod S w w2) → Hid (w2.heap[b]? = some (.cells #[.slice (some ⟨sb, 0, none⟩) (m.st.length * 64) (m.st.length * 64), .slice (some ⟨g, 0, none⟩) m.q.length cap, .bool m.off, av] 72 (0, 0))) →
        Hid (w2.heap[sb]? = some (.cells (bcells (setS (Dk.settle m.st (m.q.take N)) p.1 (p.2.take K)).flatten).toArray 5 (0, 0))) →
        Mod S w (((w2.setCell ⟨b, 1, none⟩ (.slice none 0 0)).setCell ⟨b, 2, none⟩ (.bool true)).setCell ⟨b, 3, none⟩ (.pointer none)) ∧
        DiskAt' (((w2.setCell ⟨b, 1, none⟩ (.slice none 0 0)).setCell ⟨b, 2, none⟩ (.bool true)).setCell ⟨b, 3, none⟩ (.pointer none)) b (Dk.fail m wr bt) [b, sb] sb (.slice none 0 0) (.pointer none) [] := by
      intro w2 h1 h2 h3
      have hl0 : (setS (Dk.settle m.st (m.q.take N)) p.1 (p.2.take K)).length = m.st.length := by rw [length_setS, length_settle]
      refine ⟨fail_mod h1.out hSb, ?_⟩
      have he : Dk.fail m wr bt = { st := setS (Dk.settle m.st (m.q.take N)) p.1 (p.2.take K), q := [], off := true, al := none } := by
        unfold Dk.fail
        rw [if_neg (by simp [ho]), ← HN.out, ← HK.out, Hp.out]
      rw [he]
      refine fail_end (by rw [hl0]; exact h2.out) h3.out hbs ?_ (by rw [hl0]; exact H.out.few)
      exact setS_all (settle_all _ _ H.out.ok.1 fun p' hp' => (H.out.ok.2.1 p' (List.mem_of_mem_take hp')).2) (by simp; omega)
    have HF := Lib.hid Hfin; clear Hfin
    by_cases hK0 : 0 < K
    · go_enter Tryz.func20, Tryz.ntmps20
      go_wp2_with fail
      refine Hset.out.mono ?_
      rintro e w1 ⟨rfl, hm1, hs1⟩
      have hmain1 := hm1.heap H.out.main (by simpa using hbs)
      clear c1 c2 c3
      obtain ⟨hb1, c0, c1, c2, c3, f1, f2, f3⟩ := mainfacts hmain1
      rw [ho] at c2
      rw [← hm1.cell (p := ⟨g, _, none⟩) hgl (by simpa using hg1)] at d1 d2 d3
      have hg1l : g < w1.heap.size := Nat.lt_of_lt_of_le hgl hm1.size
      have hsb1 := lt_of_block hs1
      have Hmain1 := Lib.hid hmain1; clear hmain1
      have Hs1 := Lib.hid hs1; clear hs1
      have Hm1 := Lib.hid hm1; clear hm1
      go_wp2_with fail
      refine wp_region_can [] (List.range 8) (by kernel_rfl) (by kernel_rfl) ?_
      go_wp2_with (first | refine cl_nil ?_ | (refine cl_do rfl rfl rfl rfl (fun _ _ => ?_)))
      refine (set_c b sb p.1 (Dk.settle m.st (m.q.take N)) (p.2.take K) _ (by simp; omega) (by rw [length_settle]; simp [go_sem, hb1, c0]) (by exact (Below.heap_alloc w1 _ sb hsb1).trans Hs1.out)
          (settle_all _ _ H.out.ok.1 fun p' hp' => (H.out.ok.2.1 p' (List.mem_of_mem_take hp')).2) (by rw [length_settle]; exact H.out.few) (by rw [length_settle]; exact hp1) (by simp; omega)).mono ?_
      rintro e w2 ⟨rfl, hm2, hs2⟩
      have hmain2 := hm2.heap (k := b) ((Below.heap_alloc w1 _ b hb1).trans Hmain1.out) (by simpa using hbs)
      clear c0 c1 c2 c3 f1 f2 f3
      obtain ⟨hb2, c0, c1, c2, c3, f1, f2, f3⟩ := mainfacts hmain2
      rw [ho] at c2
      have hmm : Mod S w w2 := (((Hm1.out.mono (S' := S) (by simpa using fun _ => hSs)).alloc _).drew).trans (hm2.mono (by simpa using fun _ => hSs))
      have Hend := Lib.hid (HF.out w2 (Lib.hid hmm) (Lib.hid hmain2) (Lib.hid hs2))
      clear hmm hmain2 hs2 hm2
      go_wp2_with (first | refine cl_nil ?_ | (refine cl_do rfl rfl rfl rfl (fun _ _ => ?_)))
      go_end0
      exact ⟨rfl, Hend.out⟩
    · obtain rfl : K = 0 := by omega
      go_enter Tryz.func20, Tryz.ntmps20
      go_wp2_with fail
      refine Hset.out.mono ?_
      rintro e w1 ⟨rfl, hm1, hs1⟩
      have hmain1 := hm1.heap H.out.main (by simpa using hbs)
      clear c1 c2 c3
      obtain ⟨hb1, c0, c1, c2, c3, f1, f2, f3⟩ := mainfacts hmain1
      rw [ho] at c2
      rw [← hm1.cell (p := ⟨g, _, none⟩) hgl (by simpa using hg1)] at d1 d2 d3
      have hg1l : g < w1.heap.size := Nat.lt_of_lt_of_le hgl hm1.size
      have hsb1 := lt_of_block hs1
      obtain ⟨o, ho'⟩ : ∃ o : Obj, o = .cells #[.int .i64 ((p.1 : Int) * 64), .int .i64 (((p.1 : Int) + 1) * 64), .string (bs p.2)] 88 := ⟨_, rfl⟩
      have hmm : Mod S w (w1.alloc o) := (hm1.mono (S' := S) (by simpa using fun _ => hSs)).alloc _
      have Hend := Lib.hid (HF.out (w1.alloc o) (Lib.hid hmm) (Lib.hid ((Below.heap_alloc w1 _ b hb1).trans hmain1)) (Lib.hid (by rw [Below.heap_alloc w1 _ sb hsb1, hs1]; simp [setS, List.take_zero, modify_nil])))
      rw [ho'] at Hend
      clear hmm hmain1 hs1 hm1 ho'
      go_wp2
      go_end0
      have he := Hend.out
      simp only [World.setCell_alloc_past, World.size_setCell, hb1] at he
      exact ⟨rfl, he⟩
  · obtain rfl : N = m.q.length := by omega
    have he : Dk.fail m wr bt = { st := Dk.settle m.st (m.q.take m.q.length), q := [], off := true, al := none } := by
      unfold Dk.fail
      rw [if_neg (by simp [ho]), ← HN.out]
      simp
    have hl0 : (Dk.settle m.st (m.q.take m.q.length)).length = m.st.length := by rw [length_settle]
    have He := Lib.hid he; clear he
    go_enter Tryz.func20, Tryz.ntmps20
    go_wp2_with fail
    refine Hset.out.mono ?_
    rintro e w1 ⟨rfl, hm1, hs1⟩
    have hmain1 := hm1.heap H.out.main (by simpa using hbs)
    clear c1 c2 c3
    obtain ⟨hb1, c0, c1, c2, c3, f1, f2, f3⟩ := mainfacts hmain1
    rw [ho] at c2
    have hend := fail_end (st := Dk.settle m.st (m.q.take m.q.length)) (by rw [hl0]; exact hmain1) hs1 hbs (settle_all _ _ H.out.ok.1 fun p' hp' => (H.out.ok.2.1 p' (List.mem_of_mem_take hp')).2) (by rw [hl0]; exact H.out.few)
    rw [← He.out] at hend
    have Hend := Lib.hid (And.intro (fail_mod (hm1.mono (S' := S) (by simpa using fun _ => hSs)) hSb) hend)
    clear hend hmain1 hs1 hm1 hl0
    go_wp2
    go_end0
    exact ⟨rfl, Hend.out⟩
end Go.Proofs.YtjcjpekndeoonaaGreatDoor
