/-
  The reference disk in memory, and what its methods 'set', 'settle', 'Start', 'Arm' do.
-/
import Derived.Test.YtdfjcidiolbbhaaLwSep
import Derived.Test.YtdfjcidiolbbhaaLwPlain5
import Derived.IntWalk
import Derived.Test.YtdfjcidiolbbhaaKit2
import Derived.Deep.LoopGhost
import Derived.Deep.DeepCutAuto
namespace Go.Proofs.Ytdfjcidiolbbhaa
open Go.RowKit Go.Cz Go.Cz.Dk
set_option linter.unusedSimpArgs false
set_option linter.unusedVariables false
attribute [local go_sem] bs_size bs_extract bs_append bs_toList
attribute [local irreducible] cList

def tcells (l : List Bytes) : List Value := l.map fun t => .string (bs t)
/-- The cells of a pending write. -/
def rcells (p : Nat × Bytes) : List Value := [.int .i64 (p.1 : Int), .string (bs p.2)]
def ArmAt (ar : Bool) (x y z : Int) (al : Option (Int × Int × Int)) : Prop := (ar = false ∧ al = none) ∨ (ar = true ∧ al = some (x, y, z))
/-- The reference disk m lies at block b, and takes the blocks S. -/
structure RefAt' (w : World) (b : Nat) (m : Dm) (S : List Nat) (sb cap : Nat) (pv : Value) (ar : Bool) (x y z : Int) : Prop where
  main : w.heap[b]? = some (.cells #[.slice (some ⟨sb, 0, none⟩) m.st.length cap, pv, .bool (!m.off), .bool ar, .int .i64 x, .int .i64 y, .int .i64 z] 63 (0, 0))
  stab : w.ownsRow 0 9 1 (.slice (some ⟨sb, 0, none⟩) m.st.length cap) m.st.length (tcells m.st)
  row : w.ownsRow 0 72 2 pv m.q.length (m.q.flatMap rcells)
  arm : ArmAt ar x y z m.al
  own : S = b :: sb :: pv.ownBlock.toList
  nodup : S.Nodup
  ok : m.ok
  few : m.st.length ≤ 4000
def RefAt (w : World) (b : Nat) (m : Dm) (S : List Nat) : Prop := ∃ sb cap pv ar x y z, RefAt' w b m S sb cap pv ar x y z
section
variable {w w' : World} {b : Nat} {m : Dm} {S : List Nat} {sb cap : Nat} {pv : Value} {ar : Bool} {x y z : Int}
theorem RefAt'.parts (h : RefAt' w b m S sb cap pv ar x y z) : b ∈ S ∧ sb ∈ S ∧ b ≠ sb ∧ pv.ownBlock ≠ some b ∧ pv.ownBlock ≠ some sb ∧ (∀ k, pv.ownBlock = some k → k ∈ S) := by
  have hn := h.nodup
  have ho := h.own
  subst ho
  refine ⟨by simp, by simp, ?_, ?_, ?_, ?_⟩
  · simp at hn; exact hn.1.1
  · intro e; rw [e] at hn; simp at hn
  · intro e; rw [e] at hn; simp at hn
  · intro k e; rw [e]; simp
theorem row_block {base : Nat} {e : TypeId} {size n : Nat} {v : Value} {xs : List Value} (h : w.ownsRow base e size v n xs) : ∀ k, v.ownBlock = some k → k < w.heap.size := fun k hk => (h.lt k hk).2
theorem row_mod {base : Nat} {e : TypeId} {size n : Nat} {v : Value} {xs : List Value} {S0 : List Nat} (h : w.ownsRow base e size v n xs) (hm : Mod S0 w w') (hd : ∀ k, v.ownBlock = some k → k ∉ S0) : w'.ownsRow base e size v n xs := by
  refine ⟨h.1, ?_⟩
  rcases h.2 with hn | ⟨g, cap, cur, rfl, h1, hg, r⟩
  · exact .inl hn
  · exact .inr ⟨g, cap, cur, rfl, h1, hm.heap hg (hd g rfl), r⟩
theorem RefAt'.lt (h : RefAt' w b m S sb cap pv ar x y z) : ∀ k ∈ S, k < w.heap.size := by
  intro k hk
  rw [h.own] at hk
  rcases List.mem_cons.1 hk with rfl | hk
  · exact lt_of_block h.main
  rcases List.mem_cons.1 hk with rfl | hk
  · exact row_block h.stab k rfl
  · exact row_block h.row k (by simpa using hk)
theorem RefAt'.mod {S0 : List Nat} (h : RefAt' w b m S sb cap pv ar x y z) (hm : Mod S0 w w') (hd : ∀ k ∈ S, k ∉ S0) : RefAt' w' b m S sb cap pv ar x y z := by
  obtain ⟨bS, sS, _, _, _, qS⟩ := h.parts
  exact ⟨hm.heap h.main (hd _ bS), row_mod h.stab hm (fun k hk => by cases hk; exact hd _ sS), row_mod h.row hm (fun k hk => hd _ (qS k hk)), h.arm, h.own, h.nodup, h.ok, h.few⟩
theorem RefAt'.below (h : RefAt' w b m S sb cap pv ar x y z) (hb : Below w.heap.size w w') : RefAt' w' b m S sb cap pv ar x y z := h.mod (Mod.ofBelow hb []) (by simp)
/-- What is known of the disk's own cells. -/
theorem RefAt'.cells (h : RefAt' w b m S sb cap pv ar x y z) : b < w.heap.size ∧ w.cell? ⟨b, 0, none⟩ = some (.slice (some ⟨sb, 0, none⟩) m.st.length cap) ∧ w.cell? ⟨b, 1, none⟩ = some pv ∧ w.cell? ⟨b, 2, none⟩ = some (.bool (!m.off)) ∧
    w.cell? ⟨b, 3, none⟩ = some (.bool ar) ∧ w.cell? ⟨b, 4, none⟩ = some (.int .i64 x) ∧ w.cell? ⟨b, 5, none⟩ = some (.int .i64 y) ∧ w.cell? ⟨b, 6, none⟩ = some (.int .i64 z) ∧ (∀ i, w.frozen? ⟨b, i, none⟩ = false) := by
  refine ⟨lt_of_block h.main, ?_, ?_, ?_, ?_, ?_, ?_, ?_, fun i => free_of_heap h.main⟩ <;> · rw [cell_of_heap h.main]; simp
theorem RefAt'.text (h : RefAt' w b m S sb cap pv ar x y z) {i : Nat} {t : Bytes} (hi : m.st[i]? = some t) : sb < w.heap.size ∧ w.cell? ⟨sb, i, none⟩ = some (.string (bs t)) ∧ w.frozen? ⟨sb, i, none⟩ = false := by
  have hl := (List.getElem?_eq_some_iff.1 hi).1
  exact ⟨row_block h.stab sb rfl, by rw [h.stab.cellAt i (by omega)]; simp [tcells, hi], h.stab.frozenAt i⟩
theorem rflat_get : ∀ (q : List (Nat × Bytes)) (j i : Nat) (p : Nat × Bytes), q[j]? = some p → i < 2 → (q.flatMap rcells)[j * 2 + i]? = (rcells p)[i]?
  | [], j, i, p, h, _ => by simp at h
  | x :: q, 0, i, p, h, hi => by
    simp at h; subst h
    rw [List.flatMap_cons, List.getElem?_append_left (by simp [rcells]; omega)]
    simp
  | x :: q, j + 1, i, p, h, hi => by
    rw [List.flatMap_cons, List.getElem?_append_right (by simp [rcells]; omega)]
    rw [← rflat_get q j i p (by simpa using h) hi]
    congr 1
    simp [rcells]; omega
/-- The value of the list of pending writes. -/
theorem RefAt'.form (h : RefAt' w b m S sb cap pv ar x y z) : ∃ a c, pv = .slice a m.q.length c ∧ m.q.length ≤ c ∧ ∀ (j : Nat) p, m.q[j]? = some p → ∃ g, a = some ⟨g, 0, none⟩ ∧ g < w.heap.size ∧ w.cell? ⟨g, j * 2, none⟩ = some (.int .i64 (p.1 : Int)) ∧ w.cell? ⟨g, j * 2 + 1, none⟩ = some (.string (bs p.2)) := by
  rcases h.row.2 with ⟨rfl, hn⟩ | ⟨g, c, cur, rfl, _, hg, hnc, _⟩
  · exact ⟨none, 0, by rw [hn], by omega, fun j p hp => by have := (List.getElem?_eq_some_iff.1 hp).1; omega⟩
  · refine ⟨_, c, rfl, hnc, fun j p hp => ⟨g, rfl, lt_of_block hg, ?_⟩⟩
    have hj : j < m.q.length := (List.getElem?_eq_some_iff.1 hp).1
    have key : ∀ i, i < 2 → w.cell? ⟨g, j * 2 + i, none⟩ = (rcells p)[i]? := fun i hi => by
      rw [h.row.cellAt (j * 2 + i) (by omega), rflat_get m.q j i p hp hi]
    exact ⟨by simpa [rcells] using key 0 (by omega), by simpa [rcells] using key 1 (by omega)⟩
/-- What is left of a reference disk: it is m' now. -/
def RfIn (b : Nat) (m' : Dm) (S : List Nat) (w w' : World) : Prop := ∃ S', RefAt w' b m' S' ∧ Upd S S' w w'
def RfPost (b : Nat) (m' : Dm) (v : Value) (S : List Nat) (w : World) (e : Ending) (w' : World) : Prop := e = .returned v ∧ RfIn b m' S w w'
theorem RefAt'.upd {m' : Dm} {pv' : Value} {ar' : Bool} {x' y' z' : Int} (h : RefAt' w b m S sb cap pv ar x y z) (hm : Mod S w w')
    (hmain : w'.heap[b]? = some (.cells #[.slice (some ⟨sb, 0, none⟩) m.st.length cap, pv', .bool (!m'.off), .bool ar', .int .i64 x', .int .i64 y', .int .i64 z'] 63 (0, 0)))
    (hlen : m'.st.length = m.st.length) (hstab : w'.ownsRow 0 9 1 (.slice (some ⟨sb, 0, none⟩) m.st.length cap) m.st.length (tcells m'.st))
    (hrow : w'.ownsRow 0 72 2 pv' m'.q.length (m'.q.flatMap rcells)) (harm : ArmAt ar' x' y' z' m'.al) (hown : ∀ k, pv'.ownBlock = some k → pv.ownBlock = some k ∨ w.heap.size ≤ k) (hok : m'.ok) :
    RfIn b m' S w w' := by
  obtain ⟨bS, sS, hbs, hqb, hqs, qS⟩ := h.parts
  have hlt := h.lt
  refine ⟨b :: sb :: pv'.ownBlock.toList, ⟨sb, cap, pv', ar', x', y', z', by rw [hlen]; exact hmain, by rw [hlen]; exact hstab, hrow, harm, rfl, ?_, hok, by rw [hlen]; exact h.few⟩, hm, ?_⟩
  · have h1 : pv'.ownBlock ≠ some b := fun e => by
      rcases hown b e with e1 | e1
      · exact hqb e1
      · have := hlt b bS; omega
    have h2 : pv'.ownBlock ≠ some sb := fun e => by
      rcases hown sb e with e1 | e1
      · exact hqs e1
      · have := hlt sb sS; omega
    cases hp : pv'.ownBlock with
    | none => simpa using hbs
    | some k =>
      rw [hp] at h1 h2
      simp at h1 h2 ⊢
      exact ⟨⟨hbs, fun e => h1 e.symm⟩, fun e => h2 e.symm⟩
  · intro k hk
    rcases List.mem_cons.1 hk with rfl | hk
    · exact .inl bS
    rcases List.mem_cons.1 hk with rfl | hk
    · exact .inl sS
    · rcases hown k (by simpa using hk) with e | e
      · exact .inl (qS k e)
      · exact .inr e
theorem RefAt.in (h : RefAt w b m S) : RfIn b m S w w := ⟨S, h, Upd.refl _ _⟩
theorem RefAt.below (h : RefAt w b m S) (hb : Below w.heap.size w w') : RefAt w' b m S := by
  obtain ⟨sb, cap, pv, ar, x, y, z, h⟩ := h
  exact ⟨sb, cap, pv, ar, x, y, z, h.below hb⟩
theorem RfIn.then {m1 m2 : Dm} {w2 : World} (h : RfIn b m1 S w w') (k : ∀ S', RefAt w' b m1 S' → RfIn b m2 S' w' w2) : RfIn b m2 S w w2 := by
  obtain ⟨S1, h1, u1⟩ := h
  obtain ⟨S2, h2, u2⟩ := k S1 h1
  exact ⟨S2, h2, u1.trans u2⟩
theorem RfIn.below {w2 : World} (h : RfIn b m S w w') (hb : Below w'.heap.size w' w2) : RfIn b m S w w2 := by
  obtain ⟨S1, h1, u1⟩ := h
  exact ⟨S1, h1.below hb, u1.below hb⟩
/-- A sector is written whole. -/
theorem RefAt'.setText (h : RefAt' w b m S sb cap pv ar x y z) (i : Nat) {t : Bytes} (ht : t.length = 64) : RfIn b { m with st := m.st.set i t } S w (w.setCell ⟨sb, i, none⟩ (.string (bs t))) := by
  obtain ⟨bS, sS, hbs, hqb, hqs, qS⟩ := h.parts
  refine h.upd ((Mod.refl _ _).setCell (.inl sS) _) ?_ (by simp) ?_ (ownsRow_setCell_other h.row hqs _) h.arm (fun k hk => .inl hk) ⟨?_, ?_, h.ok.2.2⟩
  · rw [setCell_heap_ne hbs]; exact h.main
  · have := (h.stab.stored i (.string (bs t))).1
    simpa [tcells, List.map_set] using this
  · intro s hs
    rcases List.mem_or_eq_of_mem_set hs with hs | rfl
    · exact h.ok.1 s hs
    · exact ht
  · intro p hp; have := h.ok.2.1 p hp; simpa using this
end
theorem setS_full {st : List Bytes} (h : ∀ s ∈ st, s.length = 64) {i : Nat} {t : Bytes} (ht : t.length = 64) : setS st i t = st.set i t := by
  unfold setS
  apply List.ext_getElem?
  intro j
  rw [List.getElem?_modify, List.getElem?_set]
  by_cases hj : i = j
  · subst hj
    by_cases hl : i < st.length
    · have := h st[i] (List.getElem_mem _)
      simp [hl, List.drop_of_length_le (by omega : st[i].length ≤ t.length)]
    · simp [hl]
  · simp [hj]

set_option maxHeartbeats 1000000 in
theorem rset_c (b i : Nat) (t : Bytes) (m : Dm) (S : List Nat) (w : World) (h : RefAt w b m S) (hi : i < m.st.length) (ht : t.length = 64) :
    Calls Try.prog 47 #[.pointer (some ⟨b, 0, none⟩), .int .i64 (i : Int), .string (bs t)] w (RfPost b { m with st := m.st.set i t } (.tuple #[]) S w) := by
  obtain ⟨sb, cap, pv, ar, x, y, z, h⟩ := h
  obtain ⟨hb, c0, -, -, -, -, -, -, -⟩ := h.cells
  obtain ⟨hs, s0, s1⟩ := h.text (List.getElem?_eq_getElem hi)
  have Hend := Lib.hid (h.setText i ht)
  clear h ht
  go_enter Try.func47, Try.ntmps47
  go_wp2
  go_end0
  exact ⟨rfl, Hend.out⟩
set_option maxRecDepth 5000 in
set_option maxHeartbeats 1000000 in
theorem rsettle_c (b n : Nat) (m : Dm) (S : List Nat) (w : World) (h : RefAt w b m S) (hn : n ≤ m.q.length) (hl : m.q.length ≤ 1000000) :
    Calls Try.prog 46 #[.pointer (some ⟨b, 0, none⟩), .int .i64 (n : Int)] w (RfPost b { m with st := Dk.settle m.st (m.q.take n) } (.tuple #[]) S w) := by
  have H0 : Hid (RfIn b { m with st := Dk.settle m.st (m.q.take 0) } S w w) := by
    have : ({ m with st := Dk.settle m.st (m.q.take 0) } : Dm) = m := by cases m; rfl
    rw [this]
    exact h.in
  have Hok : Hid m.ok := by obtain ⟨_, _, _, _, _, _, _, h⟩ := h; exact h.ok
  clear h
  go_enter Try.func46, Try.ntmps46
  go_wp2
  go_loopg [4] n (fun gk i wr => ∃ j : Nat, gk = n - j ∧ j ≤ n ∧ i = .int .i64 j ∧ Hid (RfIn b { m with st := Dk.settle m.st (m.q.take j) } S w wr))
  case atStart => exact ⟨0, rfl, Nat.zero_le _, rfl, H0.out⟩
  case round =>
    rename_i J1 K1 hJ1 hK1
    obtain ⟨j, rfl, hj, rfl, hr⟩ := hrel
    by_cases hlt : j < n
    · obtain ⟨p, hp⟩ : ∃ p, m.q[j]? = some p := ⟨_, List.getElem?_eq_getElem (by omega)⟩
      obtain ⟨hp1, hp2⟩ := Hok.out.2.1 p (List.mem_of_getElem? hp)
      obtain ⟨S1, ⟨sb, cap, pv, ar, x, y, z, h1⟩, u1⟩ := hr.out
      obtain ⟨a, c, rfl, hc, hf⟩ := h1.form
      obtain ⟨g, rfl, hg, g0, g1⟩ := hf j p hp
      obtain ⟨hb, c0, c1, -, -, -, -, -, -⟩ := h1.cells
      have Hst : Hid (Dk.settle m.st (m.q.take (j + 1)) = (Dk.settle m.st (m.q.take j)).set p.1 p.2) := by
        obtain ⟨hj', he⟩ := List.getElem?_eq_some_iff.1 hp
        show _ = _
        rw [List.take_succ_eq_append_getElem hj', he, settle_snoc, setS_full (settle_all _ _ Hok.out.1 fun p hp => (Hok.out.2.1 p (List.mem_of_mem_take hp)).2) hp2]
      have Hset := Lib.hid fun (wd : World) (hd : Below wr.heap.size wr wd) => rset_c b p.1 p.2 { m with st := Dk.settle m.st (m.q.take j) } S1 wd (RefAt.below ⟨sb, cap, _, ar, x, y, z, h1⟩ hd) (by rw [length_settle]; exact hp1) hp2
      have Hr := Lib.hid (And.intro h1 u1)
      clear hr hf hp hp2 h1 u1
      dsimp only at c1 hc
      go_wp2_with fail
      refine wp_region_can [] (List.range 18) (by kernel_rfl) (by kernel_rfl) ?_
      iterate 17 (refine cl_do rfl rfl rfl rfl (fun _ _ => ?_); go_wp2_with fail)
      refine cl_do rfl rfl rfl rfl (fun _ _ => ?_)
      go_wp2_with fail
      go_at_call 47
      refine (Hset.out _ (Below.refl _ _).drew).mono ?_
      rintro e w2 ⟨rfl, S2, h2, u2⟩
      have H2 : Hid (RfIn b { m with st := Dk.settle m.st (m.q.take (j + 1)) } S w w2) := ⟨S2, by rw [Hst.out]; exact h2, (Hr.out.2.below (Below.refl _ _).drew).trans u2⟩
      clear h2 u2
      go_wp2_with fail
      refine cl_nil ?_
      go_wp2_with fail
      go_roundg (n - (j + 1))
      case measure => omega
      case rel => exact ⟨j + 1, rfl, by omega, by go_num, H2⟩
    · obtain rfl : j = n := by omega
      clear hJ1 hK1
      go_wp2_with fail
      go_end0
      exact ⟨rfl, hr.out⟩
set_option maxHeartbeats 1000000 in
theorem rStart_c (b : Nat) (m : Dm) (S : List Nat) (w : World) (h : RefAt w b m S) :
    Calls Try.prog 36 #[.pointer (some ⟨b, 0, none⟩)] w (RfPost b (Dk.start m) (.tuple #[]) S w) := by
  obtain ⟨sb, cap, pv, ar, x, y, z, h⟩ := h
  obtain ⟨hb, -, -, c2, c3, -, -, -, hf⟩ := h.cells
  obtain ⟨bS, sS, hbs, hqb, hqs, qS⟩ := h.parts
  have f2 := hf 2
  have f3 := hf 3
  have Hend : Hid (RfIn b (Dk.start m) S w ((w.setCell ⟨b, 2, none⟩ (.bool true)).setCell ⟨b, 3, none⟩ (.bool false))) := by
    have h1 := setCell_heap (i := 2) h.main (.bool true)
    have h2 := setCell_heap (i := 3) h1 (.bool false)
    refine h.upd (pv' := pv) (ar' := false) (x' := x) (y' := y) (z' := z) (((Mod.refl S w).setCell (.inl bS) _).setCell (.inl bS) _) (by rw [h2]; simp [Dk.start]) rfl ?_ ?_ (.inl ⟨rfl, rfl⟩) (fun k hk => .inl hk) (ok_start h.ok)
    · have hne : (Value.slice (some ⟨sb, 0, none⟩) m.st.length cap).ownBlock ≠ some b := by simpa [Value.ownBlock] using fun e => hbs e.symm
      exact ownsRow_setCell_other (ownsRow_setCell_other h.stab hne _) hne _
    · exact ownsRow_setCell_other (ownsRow_setCell_other h.row hqb _) hqb _
  clear h hf hqb hqs
  go_enter Try.func36, Try.ntmps36
  go_wp2
  go_end0
  exact ⟨rfl, Hend.out⟩
set_option maxHeartbeats 1000000 in
theorem rArm_c (b : Nat) (a p q : Int) (m : Dm) (S : List Nat) (w : World) (h : RefAt w b m S) (ha : a ≤ 9223372036854775807) :
    Calls Try.prog 37 #[.pointer (some ⟨b, 0, none⟩), .int .i64 a, .int .i64 p, .int .i64 q] w (RfPost b (Dk.arm m a p q) (.tuple #[]) S w) := by
  have h0 := h
  obtain ⟨sb, cap, pv, ar, x, y, z, h⟩ := h
  obtain ⟨hb, -, -, c2, c3, c4, c5, c6, hf⟩ := h.cells
  obtain ⟨bS, sS, hbs, hqb, hqs, qS⟩ := h.parts
  by_cases ho : m.off = true
  · have Hend : Hid (RfIn b (Dk.arm m a p q) S w w) := by unfold Dk.arm; rw [if_pos ho]; exact h0.in
    simp only [ho, Bool.not_true] at c2
    clear h h0 hf ho hqb hqs
    go_enter Try.func37, Try.ntmps37
    go_wp2
    go_end0
    exact ⟨rfl, Hend.out⟩
  · have ho' : m.off = false := by simpa using ho
    simp only [ho', Bool.not_false] at c2
    have f3 := hf 3
    have f4 := hf 4
    have f5 := hf 5
    have f6 := hf 6
    have Hend : Hid (RfIn b (Dk.arm m a p q) S w ((((w.setCell ⟨b, 3, none⟩ (.bool (decide (0 ≤ a)))).setCell ⟨b, 4, none⟩ (.int .i64 a)).setCell ⟨b, 5, none⟩ (.int .i64 p)).setCell ⟨b, 6, none⟩ (.int .i64 q))) := by
      have h1 := setCell_heap (i := 3) h.main (.bool (decide (0 ≤ a)))
      have h2 := setCell_heap (i := 4) h1 (.int .i64 a)
      have h3 := setCell_heap (i := 5) h2 (.int .i64 p)
      have h4 := setCell_heap (i := 6) h3 (.int .i64 q)
      have he : Dk.arm m a p q = { m with al := if 0 ≤ a then some (a, p, q) else none } := by unfold Dk.arm; rw [if_neg ho]
      rw [he]
      refine h.upd (pv' := pv) (ar' := decide (0 ≤ a)) (x' := a) (y' := p) (z' := q) (((((Mod.refl S w).setCell (.inl bS) _).setCell (.inl bS) _).setCell (.inl bS) _).setCell (.inl bS) _) (by rw [h4]; simp) rfl ?_ ?_ ?_ (fun k hk => .inl hk) (he ▸ ok_arm h.ok a p q ha)
      · have hne : (Value.slice (some ⟨sb, 0, none⟩) m.st.length cap).ownBlock ≠ some b := by simpa [Value.ownBlock] using fun e => hbs e.symm
        exact ownsRow_setCell_other (ownsRow_setCell_other (ownsRow_setCell_other (ownsRow_setCell_other h.stab hne _) hne _) hne _) hne _
      · exact ownsRow_setCell_other (ownsRow_setCell_other (ownsRow_setCell_other (ownsRow_setCell_other h.row hqb _) hqb _) hqb _) hqb _
      · by_cases h0 : 0 ≤ a
        · exact .inr ⟨by simp [h0], by simp [h0]⟩
        · exact .inl ⟨by simp [h0], by simp [h0]⟩
    clear h h0 hf hqb hqs ho ho'
    go_enter Try.func37, Try.ntmps37
    go_wp2
    go_end0
    exact ⟨rfl, Hend.out⟩
end Go.Proofs.Ytdfjcidiolbbhaa
