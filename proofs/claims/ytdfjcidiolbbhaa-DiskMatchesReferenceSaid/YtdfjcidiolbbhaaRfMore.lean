/-
  The reference disk: 'Sync', 'Write', 'Read'.
-/
import Derived.Test.YtdfjcidiolbbhaaRfOps
namespace Go.Proofs.Ytdfjcidiolbbhaa
open Go.RowKit Go.Cz Go.Cz.Dk
set_option linter.unusedSimpArgs false
set_option linter.unusedVariables false
attribute [local go_sem] bs_size bs_extract bs_append bs_toList
attribute [local irreducible] cList

set_option maxHeartbeats 2000000 in
theorem rSync_c (b : Nat) (m : Dm) (S : List Nat) (w : World) (h : RefAt w b m S) (hl : m.q.length ≤ 100000) :
    Calls Try.prog 34 #[.pointer (some ⟨b, 0, none⟩)] w (RfPost b (Dk.sync m).1 (.int .i64 (Dk.sync m).2) S w) := by
  have h0 := h
  obtain ⟨sb, cap, pv, ar, x, y, z, h⟩ := h
  obtain ⟨hb, -, -, c2, -, -, -, -, -⟩ := h.cells
  by_cases ho : m.off = true
  · have Hend : Hid (RfPost b (Dk.sync m).1 (.int .i64 (Dk.sync m).2) S w (.returned (.int .i64 26)) w) := by simp [Hid, RfPost, Dk.sync, ho]; exact h0.in
    simp only [ho, Bool.not_true] at c2
    clear h h0 ho
    go_enter Try.func34, Try.ntmps34
    go_wp2
    go_ret
    exact Hend.out
  have ho' : m.off = false := by simpa using ho
  simp only [ho', Bool.not_false] at c2
  have Hcount := Lib.hid (rcount_c b m S w h0 (by omega))
  by_cases hc : (Dk.count m).2 = 0
  · have he : Dk.sync m = ({ (Dk.count m).1 with st := Dk.settle (Dk.count m).1.st (Dk.count m).1.q, q := [] }, 0) := by simp [Dk.sync, ho, hc]
    have Hm' : Hid ((Dk.count m).1.q.length ≤ 100000) := by
      show (Dk.count m).1.q.length ≤ 100000
      have := q_count m
      omega
    rw [he]
    have Hc := Lib.hid hc
    clear h h0 ho ho' hc he
    go_enter Try.func34, Try.ntmps34
    go_wp2_with fail
    go_at_call 45
    refine Hcount.out.mono ?_
    rintro e w1 ⟨rfl, S1, hd1, hu1⟩
    rw [Hc.out]
    clear Hcount hb c2 Hc
    generalize (Dk.count m).1 = m1 at *
    have Hset := Lib.hid (rsettle_c b m1.q.length m1 S1 w1 hd1 (Nat.le_refl _) (by have := Hm'.out; omega))
    obtain ⟨sb1, cap1, pv1, ar1, x1, y1, z1, hd1⟩ := hd1
    obtain ⟨a, c, rfl, hcc, -⟩ := hd1.form
    obtain ⟨hb, -, c1, -, -, -, -, -, -⟩ := hd1.cells
    have Hu1 := Lib.hid hu1
    clear hd1 hu1
    go_wp2_with fail
    go_at_call 46
    refine Hset.out.mono ?_
    rintro e w2 ⟨rfl, S2, ⟨sb2, cap2, pv2, ar2, x2, y2, z2, hd2⟩, hu2⟩
    obtain ⟨hb2, -, e1, -, -, -, -, -, -⟩ := hd2.cells
    obtain ⟨f1, -⟩ := rmain_facts hd2
    have Hend : Hid (RfPost b { m1 with st := Dk.settle m1.st m1.q, q := [] } (.int .i64 0) S w (.returned (.int .i64 0)) (w2.setCell ⟨b, 1, none⟩ (.slice none 0 0))) := by
      obtain ⟨S3, h3, u3⟩ := rclear_end hd2
      rw [List.take_length] at h3
      exact ⟨rfl, S3, h3, (Hu1.out.trans hu2).trans u3⟩
    clear hd2 hu2 Hset hb c1
    go_wp2_with fail
    go_ret
    exact Hend.out
  · have he : Dk.sync m = Dk.count m := by simp [Dk.sync, ho, hc]
    have h26 : (Dk.count m).2 = 26 := by
      unfold Dk.count at hc ⊢
      split
      · simp_all
      · split
        · simp_all
        · rfl
    rw [he]
    rw [h26] at Hcount ⊢
    clear h h0 ho ho' hc he h26
    go_enter Try.func34, Try.ntmps34
    go_wp2_with fail
    go_at_call 45
    refine Hcount.out.mono ?_
    rintro e w1 ⟨rfl, hd1⟩
    have Hend : Hid (RfPost b (Dk.count m).1 (.int .i64 26) S w (.returned (.int .i64 26)) w1) := ⟨rfl, hd1⟩
    clear hd1 Hcount
    go_wp2_with fail
    go_ret
    exact Hend.out

theorem info_rpend : (Try.prog.info? 72).map (fun i => (i.zero, i.size, i.bytes)) = some (some (.agg #[.int .i64 0, .string ⟨#[]⟩]), 2, 24) := by kernel_rfl
theorem rpush_end {w W w2 : World} {b i : Nat} {m : Dm} {S : List Nat} {sb cap : Nat} {pv v' : Value} {ar : Bool} {x y z : Int} {t : Bytes} (h : RefAt' w b m S sb cap pv ar x y z) (hb : Below w.heap.size w W)
    (hrow : w2.ownsRow 0 72 2 v' (m.q.length + 1) (m.q.flatMap rcells ++ rcells (i, t))) (hgrow : W.grownBy w2 pv.ownBlock) (hblk : v'.ownBlock = pv.ownBlock ∨ v'.ownBlock = some W.heap.size)
    (hi : i < m.st.length) (ht : t.length = 64) :
    RfIn b { m with q := m.q ++ [(i, t)] } S w (w2.setCell ⟨b, 1, none⟩ v') ∧ b < w2.heap.size ∧ w2.frozen? ⟨b, 1, none⟩ = false ∧ w2.cell? ⟨b, 1, none⟩ = some pv := by
  obtain ⟨bS, sS, hbs, hqb, hqs, qS⟩ := h.parts
  have hlt := h.lt
  have keep : ∀ k, k < w.heap.size → some k ≠ pv.ownBlock → w2.heap[k]? = w.heap[k]? := fun k hk hne => (hgrow.block k (Nat.lt_of_lt_of_le hk hb.size) hne).trans (hb.block k hk)
  have hmain := (keep b (hlt b bS) (Ne.symm hqb)).trans h.main
  have hne : (Value.slice (some ⟨sb, 0, none⟩) m.st.length cap).ownBlock ≠ some b := by simpa [Value.ownBlock] using fun e => hbs e.symm
  have hv : v'.ownBlock ≠ some b := by
    rcases hblk with e | e
    · rw [e]; exact hqb
    · rw [e]; have := hlt b bS; have := hb.size; simp; omega
  have hm2 : Mod S w w2 := Mod.grown (Mod.ofBelow hb S) hgrow fun k hk => .inl (qS k hk)
  have hstab : w2.ownsRow 0 9 1 (.slice (some ⟨sb, 0, none⟩) m.st.length cap) m.st.length (tcells m.st) := by
    refine (row_mod h.stab (Mod.ofBelow hb []) (by simp)).kept hgrow (.inr ?_)
    simpa [Value.ownBlock] using fun e => hqs e.symm
  refine ⟨h.upd (pv' := v') (ar' := ar) (x' := x) (y' := y) (z' := z) (hm2.setCell (.inl bS) _) ?_ rfl (ownsRow_setCell_other hstab hne _) ?_ h.arm ?_ ⟨h.ok.1, ?_, h.ok.2.2⟩, lt_of_block hmain, free_of_heap hmain, by rw [cell_of_heap hmain]; simp⟩
  · rw [setCell_heap hmain]; simp
  · have := ownsRow_setCell_other (a := ⟨b, 1, none⟩) hrow hv v'
    simpa using this
  · intro k hk
    rcases hblk with e | e
    · rw [e] at hk; exact .inl hk
    · rw [e] at hk; cases hk; exact .inr hb.size
  · intro p hp
    rcases List.mem_append.1 hp with hp | hp
    · exact h.ok.2.1 p hp
    · simp at hp; subst hp; exact ⟨hi, ht⟩
set_option maxHeartbeats 2000000 in
theorem rWrite_c (b : Nat) (s : Int) (t : Bytes) (m : Dm) (S : List Nat) (w : World) (h : RefAt w b m S) (hl : m.q.length ≤ 100000) :
    Calls Try.prog 33 #[.pointer (some ⟨b, 0, none⟩), .int .i64 s, .string (bs t)] w (RfPost b (Dk.write m s t).1 (.int .i64 (Dk.write m s t).2) S w) := by
  have h0 := h
  obtain ⟨sb, cap, pv, ar, x, y, z, h⟩ := h
  obtain ⟨hb, c0, c1, c2, -, -, -, -, -⟩ := h.cells
  by_cases ho : m.off = true
  · have Hend : Hid (RfPost b (Dk.write m s t).1 (.int .i64 (Dk.write m s t).2) S w (.returned (.int .i64 26)) w) := by simp [Hid, RfPost, Dk.write, ho]; exact h0.in
    simp only [ho, Bool.not_true] at c2
    clear h h0 ho
    go_enter Try.func33, Try.ntmps33
    go_wp2
    go_ret
    exact Hend.out
  have ho' : m.off = false := by simpa using ho
  simp only [ho', Bool.not_false] at c2
  have Hbad : Hid (¬ (valid m s && t.length == 64) = true → RfPost b (Dk.write m s t).1 (.int .i64 (Dk.write m s t).2) S w (.returned (.int .i64 1)) w) := fun hv => by
    simp only [RfPost, Dk.write, ho', Bool.false_eq_true, if_false, if_neg hv]
    exact ⟨trivial, h0.in⟩
  by_cases hs0 : s < 0
  · have Hend := Lib.hid (Hbad.out (by simp [valid]; omega))
    clear h h0 ho ho' Hbad
    go_enter Try.func33, Try.ntmps33
    go_wp2
    go_ret
    exact Hend.out
  by_cases hs1 : (m.st.length : Int) ≤ s
  · have Hend := Lib.hid (Hbad.out (by simp [valid]; omega))
    clear h h0 ho ho' Hbad
    go_enter Try.func33, Try.ntmps33
    go_wp2
    go_ret
    exact Hend.out
  by_cases ht : t.length = 64
  · obtain ⟨i, rfl⟩ : ∃ i : Nat, s = i := ⟨s.toNat, by omega⟩
    have hi : i < m.st.length := by omega
    have he : Dk.write m i t = Dk.count { m with q := m.q ++ [(i, t)] } := by
      have hv : valid m i = true := by simp only [valid, Bool.and_eq_true, decide_eq_true_eq]; omega
      simp [Dk.write, ho', hv, ht]
    rw [he]
    have ht' : ((t.length : Int) != 64) = false := by rw [ht]; rfl
    have Hrow : Hid (∀ W, Below w.heap.size w W → W.ownsRow 0 72 2 pv m.q.length (m.q.flatMap rcells)) := fun W hW => (h.below hW).row
    have Hpush : Hid (∀ W w2 v', Below w.heap.size w W → w2.ownsRow 0 72 2 v' (m.q.length + 1) (m.q.flatMap rcells ++ rcells (i, t)) → W.grownBy w2 pv.ownBlock → (v'.ownBlock = pv.ownBlock ∨ v'.ownBlock = some W.heap.size) → _) :=
      fun W w2 v' hb h1 h2 h3 => rpush_end h hb h1 h2 h3 hi ht
    clear h h0 ho ho' Hbad ht he
    go_enter Try.func33, Try.ntmps33
    go_wp2_with (refine wpList_plain rfl fun K hK => wp_append (.tmp 34) (.tmp 38) 61 (by rfl) 72 _ 2 24 Try.underlying61 info_rpend (by rfl) (by omega) pv m.q.length (m.q.flatMap rcells) (by rfl) (Hrow.out _ (by repeat (first | exact Below.refl _ _ | (refine Below.drew ?_) | (refine Below.alloc ?_ (by (try simp only [World.size_alloc, World.size_setCell, World.size_drew] at *); omega) _) | (refine Below.setCell ?_ (by (try simp only [World.size_alloc, World.size_setCell, World.size_drew] at *); omega) _)))) w.heap.size 1 1 (rcells (i, t)) (by rfl) (by rfl) 72 (by exact new_heap w _ _ rfl) (by simp [rcells, Value.oneCell']) (by omega) (by omega) ?_; intro v' w2 hrow hgrow hblk; obtain ⟨g', cap', rfl⟩ := row_form hrow; obtain ⟨hp, hb2, f1, e1⟩ := Hpush.out _ w2 _ (by repeat (first | exact Below.refl _ _ | (refine Below.drew ?_) | (refine Below.alloc ?_ (by (try simp only [World.size_alloc, World.size_setCell, World.size_drew] at *); omega) _) | (refine Below.setCell ?_ (by (try simp only [World.size_alloc, World.size_setCell, World.size_drew] at *); omega) _))) hrow hgrow hblk; clear hrow hgrow hblk; have Hp := Lib.hid hp; clear hp c1 c0 c2)
    obtain ⟨S1, hd1, hu1⟩ := Hp.out
    refine (rcount_c b _ S1 _ hd1 (by simp; omega)).mono ?_
    rintro e w3 ⟨rfl, S2, hd2, hu2⟩
    have Hend : Hid (RfPost b (Dk.count { m with q := m.q ++ [(i, t)] }).1 (.int .i64 (Dk.count { m with q := m.q ++ [(i, t)] }).2) S w (.returned (.int .i64 (Dk.count { m with q := m.q ++ [(i, t)] }).2)) w3) := ⟨rfl, S2, hd2, hu1.trans hu2⟩
    clear hd1 hd2 hu1 hu2 Hp e1 f1
    generalize (Dk.count { m with q := m.q ++ [(i, t)] }).2 = r at *
    go_wp2
    go_ret
    exact Hend.out
  · have ht' : ((t.length : Int) != 64) = true := by simp; omega
    have Hend := Lib.hid (Hbad.out (by simp [ht]))
    clear h h0 ho ho' Hbad ht
    go_enter Try.func33, Try.ntmps33
    go_wp2
    go_ret
    exact Hend.out

theorem look_snoc (m : Dm) (q : List (Nat × Bytes)) (p : Nat × Bytes) (s : Nat) : Dk.look { m with q := q ++ [p] } s = if p.1 = s then p.2 else Dk.look { m with q := q } s := by
  unfold Dk.look
  simp only [List.reverse_append, List.reverse_cons, List.reverse_nil, List.nil_append, List.singleton_append, List.find?_cons]
  by_cases h : p.1 = s
  · simp [h]
  · have h' : (p.1 == s) = false := by simpa using h
    simp [h, h']
set_option maxHeartbeats 2000000 in
theorem rRead_c (b : Nat) (s : Int) (m : Dm) (S : List Nat) (w : World) (h : RefAt w b m S) (hl : m.q.length ≤ 100000) :
    Calls Try.prog 19 #[.pointer (some ⟨b, 0, none⟩), .int .i64 s] w fun e w' => e = .returned (.tuple #[.string (bs (Dk.read m s).1), .int .i64 (Dk.read m s).2]) ∧ w' = w := by
  have h0 := h
  obtain ⟨sb, cap, pv, ar, x, y, z, h⟩ := h
  obtain ⟨hb, c0, c1, c2, -, -, -, -, -⟩ := h.cells
  by_cases ho : m.off = true
  · have Hend : Hid (Dk.read m s = ([], 26)) := by simp [Hid, Dk.read, ho]
    simp only [ho, Bool.not_true] at c2
    clear h h0 ho
    go_enter Try.func19, Try.ntmps19
    go_wp2
    go_ret2
    exact ⟨by rw [Hend.out]; rfl, rfl⟩
  have ho' : m.off = false := by simpa using ho
  simp only [ho', Bool.not_false] at c2
  by_cases hs0 : s < 0
  · have Hend : Hid (Dk.read m s = ([], 1)) := by simp [Hid, Dk.read, ho', valid]; omega
    clear h h0 ho ho'
    go_enter Try.func19, Try.ntmps19
    go_wp2
    go_ret2
    exact ⟨by rw [Hend.out]; rfl, rfl⟩
  by_cases hs1 : (m.st.length : Int) ≤ s
  · have Hend : Hid (Dk.read m s = ([], 1)) := by simp [Hid, Dk.read, ho', valid]; omega
    clear h h0 ho ho'
    go_enter Try.func19, Try.ntmps19
    go_wp2
    go_ret2
    exact ⟨by rw [Hend.out]; rfl, rfl⟩
  obtain ⟨i, rfl⟩ : ∃ i : Nat, s = i := ⟨s.toNat, by omega⟩
  have hi : i < m.st.length := by omega
  have Hend : Hid (Dk.read m i = (Dk.look { m with q := m.q.take m.q.length } i, 0)) := by
    have hv : valid m i = true := by simp only [valid, Bool.and_eq_true, decide_eq_true_eq]; omega
    show Dk.read m i = _
    rw [List.take_length]
    unfold Dk.read
    rw [if_neg ho, if_pos hv]
    rfl
  obtain ⟨t, ht⟩ : ∃ t, m.st[i]? = some t := ⟨_, List.getElem?_eq_getElem hi⟩
  obtain ⟨hs, s0, s1⟩ := h.text ht
  have H0 : Hid (t = Dk.look { m with q := m.q.take 0 } i) := by simp [Hid, Dk.look, ht]
  obtain ⟨a, c, rfl, hc, hf⟩ := h.form
  have Hf := Lib.hid hf
  clear h h0 ho ho' hf ht hs0 hs1
  go_enter Try.func19, Try.ntmps19
  go_wp2_with fail
  go_loopw [6, 7] (fun o k wr => wr = w ∧ ∃ j : Nat, j ≤ m.q.length ∧ k = .int .i64 j ∧ o = .string (bs (Dk.look { m with q := m.q.take j } i))) (fun _ k _ => m.q.length - (intOf k).toNat)
  case atStart => exact ⟨rfl, 0, Nat.zero_le _, rfl, by rw [← H0.out]⟩
  case round =>
    obtain ⟨rfl, j, hj, rfl, rfl⟩ := hrel
    by_cases hlt : j < m.q.length
    · obtain ⟨p, hp⟩ : ∃ p, m.q[j]? = some p := ⟨_, List.getElem?_eq_getElem hlt⟩
      obtain ⟨g, rfl, hg, g0, g1⟩ := Hf.out j p hp
      have Hst : Hid (Dk.look { m with q := m.q.take (j + 1) } i = if p.1 = i then p.2 else Dk.look { m with q := m.q.take j } i) := by
        obtain ⟨hj', he⟩ := List.getElem?_eq_some_iff.1 hp
        show _ = _
        rw [List.take_succ_eq_append_getElem hj', he, look_snoc]
      clear hp
      by_cases he : p.1 = i
      · have he' : ((p.1 : Int) == (i : Int)) = true := by simp [he]
        rw [if_pos he] at Hst
        clear he
        go_wp2_with fail
        go_roundw
        case rel => exact ⟨trivial, j + 1, by omega, by go_num, by rw [Hst.out]⟩
        case measure => simp [intOf]; omega
      · have he' : ((p.1 : Int) == (i : Int)) = false := by simp; omega
        rw [if_neg he] at Hst
        clear he
        go_wp2_with fail
        go_roundw
        case rel => exact ⟨trivial, j + 1, by omega, by go_num, by rw [Hst.out]⟩
        case measure => simp [intOf]; omega
    · obtain rfl : j = m.q.length := by omega
      go_wp2_with fail
      go_ret2
      exact ⟨by rw [Hend.out]; first | rfl | simp [go_sem], rfl⟩
end Go.Proofs.Ytdfjcidiolbbhaa
