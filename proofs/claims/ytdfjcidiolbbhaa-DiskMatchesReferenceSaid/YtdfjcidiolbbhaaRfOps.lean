/-
  The reference disk: 'Fail', 'count', 'Sync', 'Write', 'Read'.
-/
import Derived.Test.YtdfjcidiolbbhaaRfAt
namespace Go.Proofs.Ytdfjcidiolbbhaa
open Go.RowKit Go.Cz Go.Cz.Dk
set_option linter.unusedSimpArgs false
set_option linter.unusedVariables false
attribute [local go_sem] bs_size bs_extract bs_append bs_toList
attribute [local irreducible] cList

theorem rmain_facts {w : World} {b : Nat} {m : Dm} {S : List Nat} {sb cap : Nat} {pv : Value} {ar : Bool} {x y z : Int} (h : RefAt' w b m S sb cap pv ar x y z) :
    w.frozen? ⟨b, 1, none⟩ = false ∧ w.frozen? ⟨b, 2, none⟩ = false ∧ w.frozen? ⟨b, 3, none⟩ = false ∧ w.frozen? ⟨b, 4, none⟩ = false := ⟨free_of_heap h.main, free_of_heap h.main, free_of_heap h.main, free_of_heap h.main⟩
theorem rfail_end {w : World} {b : Nat} {m : Dm} {S : List Nat} {sb cap : Nat} {pv : Value} {ar : Bool} {x y z : Int} (h : RefAt' w b m S sb cap pv ar x y z) :
    RfIn b { st := m.st, q := [], off := true, al := none } S w (((w.setCell ⟨b, 1, none⟩ (.slice none 0 0)).setCell ⟨b, 2, none⟩ (.bool false)).setCell ⟨b, 3, none⟩ (.bool false)) := by
  obtain ⟨bS, sS, hbs, hqb, hqs, qS⟩ := h.parts
  have h1 := setCell_heap (i := 1) h.main (.slice none 0 0)
  have h2 := setCell_heap (i := 2) h1 (.bool false)
  have h3 := setCell_heap (i := 3) h2 (.bool false)
  have hne : (Value.slice (some ⟨sb, 0, none⟩) m.st.length cap).ownBlock ≠ some b := by simpa [Value.ownBlock] using fun e => hbs e.symm
  exact h.upd (pv' := .slice none 0 0) (ar' := false) (x' := x) (y' := y) (z' := z) ((((Mod.refl S w).setCell (.inl bS) _).setCell (.inl bS) _).setCell (.inl bS) _) (by rw [h3]; simp) rfl
    (ownsRow_setCell_other (ownsRow_setCell_other (ownsRow_setCell_other h.stab hne _) hne _) hne _) (World.ownsRow_nil _ _ _ _) (.inl ⟨rfl, rfl⟩) (fun k hk => by cases hk) ⟨h.ok.1, by simp, by simp⟩
theorem rclear_end {w : World} {b : Nat} {m : Dm} {S : List Nat} {sb cap : Nat} {pv : Value} {ar : Bool} {x y z : Int} (h : RefAt' w b m S sb cap pv ar x y z) :
    RfIn b { m with q := [] } S w (w.setCell ⟨b, 1, none⟩ (.slice none 0 0)) := by
  obtain ⟨bS, sS, hbs, hqb, hqs, qS⟩ := h.parts
  have h1 := setCell_heap (i := 1) h.main (.slice none 0 0)
  have hne : (Value.slice (some ⟨sb, 0, none⟩) m.st.length cap).ownBlock ≠ some b := by simpa [Value.ownBlock] using fun e => hbs e.symm
  exact h.upd (pv' := .slice none 0 0) (ar' := ar) (x' := x) (y' := y) (z' := z) ((Mod.refl S w).setCell (.inl bS) _) (by rw [h1]; simp) rfl
    (ownsRow_setCell_other h.stab hne _) (World.ownsRow_nil _ _ _ _) h.arm (fun k hk => by cases hk) ⟨h.ok.1, by simp, h.ok.2.2⟩

set_option maxRecDepth 5000 in
set_option maxHeartbeats 2000000 in
theorem rFail_c (b : Nat) (wr bt : Int) (m : Dm) (S : List Nat) (w : World) (h : RefAt w b m S) (hl : m.q.length ≤ 1000000) :
    Calls Try.prog 35 #[.pointer (some ⟨b, 0, none⟩), .int .i64 wr, .int .i64 bt] w (RfPost b (Dk.fail m wr bt) (.tuple #[]) S w) := by
  have h0 := h
  obtain ⟨sb, cap, pv, ar, x, y, z, h⟩ := h
  obtain ⟨hb, -, c1, c2, -, -, -, -, -⟩ := h.cells
  by_cases ho : m.off = true
  · have Hend : Hid (RfIn b (Dk.fail m wr bt) S w w) := by unfold Dk.fail; rw [if_pos ho]; exact h0.in
    simp only [ho, Bool.not_true] at c2
    clear h h0 ho
    go_enter Try.func35, Try.ntmps35
    go_wp2
    go_end0
    exact ⟨rfl, Hend.out⟩
  have ho' : m.off = false := by simpa using ho
  simp only [ho', Bool.not_false] at c2
  obtain ⟨N, hN⟩ : ∃ N, N = clamp wr m.q.length := ⟨_, rfl⟩
  have hNl : N ≤ m.q.length := by rw [hN]; exact clamp_le _ _
  have eN : max 0 (min wr (m.q.length : Int)) = (N : Int) := by rw [hN]; unfold clamp; omega
  have HN := Lib.hid hN; clear hN
  have Hset := Lib.hid (rsettle_c b N m S w h0 hNl hl)
  have Hok := Lib.hid h.ok
  have Hfew := Lib.hid h.few
  obtain ⟨a, c, rfl, hc, -⟩ := h.form
  clear h0 h
  have Hfin : Hid (∀ (w1 w2 : World) (S1 : List Nat) (st2 : List Bytes), RfIn b { m with st := st2 } S w w1 → (Dk.fail m wr bt = { st := st2, q := [], off := true, al := none }) → ∃ S2 sb2 cap2 pv2 ar2 x2 y2 z2, RefAt' w1 b { m with st := st2 } S2 sb2 cap2 pv2 ar2 x2 y2 z2 ∧
      RfIn b (Dk.fail m wr bt) S w (((w1.setCell ⟨b, 1, none⟩ (.slice none 0 0)).setCell ⟨b, 2, none⟩ (.bool false)).setCell ⟨b, 3, none⟩ (.bool false))) := by
    intro w1 w2 S1 st2 h1 he
    obtain ⟨S2, ⟨sb2, cap2, pv2, ar2, x2, y2, z2, h2⟩, u2⟩ := h1
    refine ⟨S2, sb2, cap2, pv2, ar2, x2, y2, z2, h2, ?_⟩
    rw [he]
    obtain ⟨S3, h3, u3⟩ := rfail_end h2
    exact ⟨S3, h3, u2.trans u3⟩
  by_cases hlt : N < m.q.length
  · obtain ⟨p, hp⟩ : ∃ p, m.q[N]? = some p := ⟨m.q[N], List.getElem?_eq_getElem hlt⟩
    obtain ⟨hp1, hp2⟩ := Hok.out.2.1 p (List.mem_of_getElem? hp)
    obtain ⟨K, hK⟩ : ∃ K, K = clamp bt 64 := ⟨_, rfl⟩
    have eK : max 0 (min bt 64) = (K : Int) := by rw [hK]; unfold clamp; omega
    have hK64 : K ≤ 64 := by rw [hK]; exact clamp_le _ _
    have HK := Lib.hid hK; clear hK
    have hKp : K ≤ p.2.length := by rw [hp2]; exact hK64
    have hp64 : p.2.length ≤ 64 := by omega
    have Hp2 := Lib.hid hp2; clear hp2
    have Hp := Lib.hid hp; clear hp
    have He : Hid (Dk.fail m wr bt = { st := setS (Dk.settle m.st (m.q.take N)) p.1 (p.2.take K), q := [], off := true, al := none }) := by
      show _ = _
      unfold Dk.fail
      rw [if_neg ho, ← HN.out, ← HK.out, Hp.out]
    clear ho
    go_enter Try.func35, Try.ntmps35
    go_wp2_with fail
    go_at_call 46
    refine Hset.out.mono ?_
    rintro e w1 ⟨rfl, S1, ⟨sb1, cap1, pv1, ar1, x1, y1, z1, h1⟩, u1⟩
    clear c1 c2 hb hc
    obtain ⟨a1, c', rfl, hc', hf⟩ := h1.form
    obtain ⟨g, rfl, hg, g0, g1⟩ := hf N p Hp.out
    obtain ⟨hb, c0, c1, -, -, -, -, -, -⟩ := h1.cells
    obtain ⟨f1, f2, f3, -⟩ := rmain_facts h1
    dsimp only at c0 c1 hc'
    by_cases hK0 : 0 < K
    · obtain ⟨t, ht⟩ : ∃ t, (Dk.settle m.st (m.q.take N))[p.1]? = some t := ⟨_, List.getElem?_eq_getElem (by rw [length_settle]; exact hp1)⟩
      have ht64 : t.length = 64 := settle_all _ _ Hok.out.1 (fun p' hp' => (Hok.out.2.1 p' (List.mem_of_mem_take hp')).2) t (List.mem_of_getElem? ht)
      obtain ⟨hs, s0, s1⟩ := h1.text ht
      have hsl : p.1 < m.st.length := hp1
      have hKt : K ≤ t.length := by omega
      have hKt' : t.length ≤ 64 := by omega
      have Hdt : Hid ((t.drop K).take (t.length - K) = t.drop K) := List.take_of_length_le (by simp)
      have Hset2 := Lib.hid fun (wd : World) (hd : Below w1.heap.size w1 wd) => rset_c b p.1 (p.2.take K ++ t.drop K) { m with st := Dk.settle m.st (m.q.take N) } S1 wd (RefAt.below ⟨sb1, cap1, _, ar1, x1, y1, z1, h1⟩ hd) (by rw [length_settle]; exact hp1) (by simp; omega)
      have Hst : Hid ((Dk.settle m.st (m.q.take N)).set p.1 (p.2.take K ++ t.drop K) = setS (Dk.settle m.st (m.q.take N)) p.1 (p.2.take K)) := (setS_set ht Hp2.out hK64).symm
      have Hu1 := Lib.hid u1
      have Hlen : Hid ((Dk.settle m.st (m.q.take N)).length = m.st.length) := length_settle _ _
      rw [length_settle] at c0
      clear hf h1 u1 ht ht64 Hset
      go_wp2_with fail
      refine wp_region_can [] (List.range 19) (by kernel_rfl) (by kernel_rfl) ?_
      iterate 18 (refine cl_do rfl rfl rfl rfl (fun _ _ => ?_); go_wp2_with fail)
      refine cl_do rfl rfl rfl rfl (fun _ _ => ?_)
      go_wp2_with fail
      go_at_call 47
      rw [Hdt.out]
      refine (Hset2.out _ (by repeat (first | exact Below.refl _ _ | (refine Below.drew ?_) | (refine Below.alloc ?_ (by (try simp only [World.size_alloc, World.size_setCell, World.size_drew] at *); omega) _) | (refine Below.setCell ?_ (by (try simp only [World.size_alloc, World.size_setCell, World.size_drew] at *); omega) _)))).mono ?_
      rintro e w2 ⟨rfl, h2⟩
      have hin : RfIn b { m with st := setS (Dk.settle m.st (m.q.take N)) p.1 (p.2.take K) } S w w2 := by
        obtain ⟨S2, h2, u2⟩ := h2
        refine ⟨S2, by rw [← Hst.out]; exact h2, (Hu1.out.below ?_).trans u2⟩
        repeat (first | exact Below.refl _ _ | (refine Below.drew ?_) | (refine Below.alloc ?_ (by (try simp only [World.size_alloc, World.size_setCell, World.size_drew] at *); omega) _) | (refine Below.setCell ?_ (by (try simp only [World.size_alloc, World.size_setCell, World.size_drew] at *); omega) _))
      obtain ⟨S2, sb2, cap2, pv2, ar2, x2, y2, z2, h2, hend⟩ := Hfin.out w2 w2 S _ hin He.out
      have Hend := Lib.hid hend
      clear hend hin c0 c1 f1 f2 f3 hb g0 g1 s0 s1 hg hs
      obtain ⟨hb, c0, c1, c2, c3, -, -, -, -⟩ := h2.cells
      obtain ⟨f1, f2, f3, -⟩ := rmain_facts h2
      clear h2
      go_wp2_with fail
      refine cl_nil ?_
      go_wp2_with fail
      go_end0
      exact ⟨rfl, Hend.out⟩
    · obtain rfl : K = 0 := by omega
      obtain ⟨o, ho2⟩ : ∃ o : Obj, o = .cells #[.int .i64 (p.1 : Int), .string (bs p.2)] 72 := ⟨_, rfl⟩
      have hin : RfIn b { m with st := setS (Dk.settle m.st (m.q.take N)) p.1 (p.2.take 0) } S w (w1.alloc o) := by
        rw [show setS (Dk.settle m.st (m.q.take N)) p.1 (p.2.take 0) = Dk.settle m.st (m.q.take N) by simp [setS, modify_nil]]
        exact RfIn.below ⟨S1, ⟨sb1, cap1, _, ar1, x1, y1, z1, h1⟩, u1⟩ (by repeat (first | exact Below.refl _ _ | (refine Below.drew ?_) | (refine Below.alloc ?_ (by (try simp only [World.size_alloc, World.size_setCell, World.size_drew] at *); omega) _) | (refine Below.setCell ?_ (by (try simp only [World.size_alloc, World.size_setCell, World.size_drew] at *); omega) _)))
      obtain ⟨S2, sb2, cap2, pv2, ar2, x2, y2, z2, h2, hend⟩ := Hfin.out _ w1 S _ hin He.out
      rw [ho2] at hend
      have Hend := Lib.hid hend
      obtain ⟨-, -, -, d2, d3, -, -, -, -⟩ := h1.cells
      clear hend hin h2 ho2 hf h1 u1 Hset
      go_wp2_with fail
      go_end0
      have he := Hend.out
      simp only [World.setCell_alloc_past, World.size_setCell, hb] at he
      exact ⟨rfl, he⟩
  · obtain rfl : N = m.q.length := by omega
    have He : Hid (Dk.fail m wr bt = { st := Dk.settle m.st (m.q.take m.q.length), q := [], off := true, al := none }) := by
      show _ = _
      unfold Dk.fail
      rw [if_neg ho, ← HN.out]
      simp
    clear ho
    go_enter Try.func35, Try.ntmps35
    go_wp2_with fail
    go_at_call 46
    refine Hset.out.mono ?_
    rintro e w1 ⟨rfl, h1⟩
    obtain ⟨S2, sb2, cap2, pv2, ar2, x2, y2, z2, h2, hend⟩ := Hfin.out w1 w1 S _ h1 He.out
    have Hend := Lib.hid hend
    clear hend h1 c1 c2 hb hc Hset
    obtain ⟨a1, c', rfl, hc', -⟩ := h2.form
    obtain ⟨hb, -, c1, c2, c3, -, -, -, -⟩ := h2.cells
    obtain ⟨f1, f2, f3, -⟩ := rmain_facts h2
    dsimp only at c1 c2 hc'
    clear h2
    go_wp2_with fail
    go_end0
    exact ⟨rfl, Hend.out⟩

set_option maxHeartbeats 1000000 in
theorem rcount_c (b : Nat) (m : Dm) (S : List Nat) (w : World) (h : RefAt w b m S) (hl : m.q.length ≤ 1000000) :
    Calls Try.prog 45 #[.pointer (some ⟨b, 0, none⟩)] w (RfPost b (Dk.count m).1 (.int .i64 (Dk.count m).2) S w) := by
  have h0 := h
  obtain ⟨sb, cap, pv, ar, x, y, z, h⟩ := h
  obtain ⟨hb, -, -, -, c3, c4, c5, c6, -⟩ := h.cells
  obtain ⟨-, -, -, f4⟩ := rmain_facts h
  rcases h.arm with ⟨rfl, hal⟩ | ⟨rfl, hal⟩
  · have Hend : Hid (RfPost b (Dk.count m).1 (.int .i64 (Dk.count m).2) S w (.returned (.int .i64 0)) w) := by simp [Hid, RfPost, Dk.count, hal]; exact h0.in
    clear h h0 hal
    go_enter Try.func45, Try.ntmps45
    go_wp2
    go_ret
    exact Hend.out
  · have hx := h.ok.2.2 _ hal
    dsimp only at hx
    obtain ⟨hx0, hx1⟩ := hx
    by_cases hp : 0 < x
    · have hx2 : (x == 0) = false := by simp; omega
      obtain ⟨bS, sS, hbs, hqb, hqs, qS⟩ := h.parts
      have hne : (Value.slice (some ⟨sb, 0, none⟩) m.st.length cap).ownBlock ≠ some b := by simpa [Value.ownBlock] using fun e => hbs e.symm
      have h1 := setCell_heap (i := 4) h.main (.int .i64 (x - 1))
      have hin : RfIn b { m with al := some (x - 1, y, z) } S w (w.setCell ⟨b, 4, none⟩ (.int .i64 (x - 1))) :=
        h.upd (pv' := pv) (ar' := true) (x' := x - 1) (y' := y) (z' := z) ((Mod.refl S w).setCell (.inl bS) _) (by rw [h1]; simp) rfl (ownsRow_setCell_other h.stab hne _) (ownsRow_setCell_other h.row hqb _) (.inr ⟨rfl, rfl⟩) (fun k hk => .inl hk)
          ⟨h.ok.1, h.ok.2.1, fun v hv => by cases hv; exact ⟨by dsimp only; omega, by dsimp only; omega⟩⟩
      have Hend : Hid (RfPost b (Dk.count m).1 (.int .i64 (Dk.count m).2) S w (.returned (.int .i64 0)) (w.setCell ⟨b, 4, none⟩ (.int .i64 (x - 1)))) := by
        simp only [Hid, RfPost, Dk.count, hal, if_pos hp]
        exact ⟨trivial, hin⟩
      clear h h0 hal hin h1 hne hqb hqs
      go_enter Try.func45, Try.ntmps45
      go_wp2
      go_ret
      exact Hend.out
    · obtain rfl : x = 0 := by omega
      have Hf := Lib.hid (fun w1 (hw : Below w.heap.size w w1) => rFail_c b y z m S w1 (h0.below hw) hl)
      have Hend : Hid (∀ w1 w2, Below w.heap.size w w1 → RfIn b (Dk.fail m y z) S w1 w2 → RfPost b (Dk.count m).1 (.int .i64 (Dk.count m).2) S w (.returned (.int .i64 26)) w2) := by
        rintro w1 w2 hw ⟨S', hd, hu⟩
        simp only [RfPost, Dk.count, hal, if_neg (show ¬ (0 : Int) < 0 by omega)]
        exact ⟨trivial, S', hd, (Upd.ofBelow hw).trans hu⟩
      clear h h0 hal
      go_enter Try.func45, Try.ntmps45
      go_wp2_with fail
      refine wp_region_can [] (List.range 10) (by kernel_rfl) (by kernel_rfl) ?_
      iterate 9 (refine cl_do rfl rfl rfl rfl (fun _ _ => ?_); go_wp2_with fail)
      refine cl_do rfl rfl rfl rfl (fun _ _ => ?_)
      go_wp2_with fail
      go_at_call 35
      refine (Hf.out _ (by exact (Below.refl _ _).drew)).mono ?_
      rintro e w2 ⟨rfl, hpost⟩
      have Hp2 := Lib.hid (Hend.out _ w2 (by exact (Below.refl _ _).drew) hpost); clear hpost
      go_wp2_with fail
      refine cl_nil ?_
      go_wp2_with fail
      go_ret
      exact Hp2.out
end Go.Proofs.Ytdfjcidiolbbhaa
