/-
  The reference disk in memory, and what its methods 'set', 'settle', 'Start', 'Arm' do.
  The reference disk: 'Fail', 'count', 'Sync', 'Write', 'Read'.
  The reference disk: 'Sync', 'Write', 'Read'.
  The reference disk: 'Rot', 'Raw'.
  The reference disk: 'Raw', 'zero', 'New', and the law's 'want'.
  The reference disk: 'New'; the reference disk as a piece of memory.
-/
import Derived.Test.YtjcjpekndeoonaaGreatDoorJnSep
import Derived.IntWalk
import Derived.Test.YtjcjpekndeoonaaGreatDoorBase
import Derived.Deep.LoopGhost
import Derived.Deep.DeepCutAuto
import Derived.StillTailTactics
import Derived.Lib.AppendStr
namespace Go.Cz.Dk
theorem q_fail (m : Dm) (w b : Int) : (fail m w b).q.length ≤ m.q.length := by unfold fail; split <;> simp
theorem q_count (m : Dm) : (count m).1.q.length ≤ m.q.length := by
  unfold count
  split
  · exact Nat.le_refl _
  · split
    · exact Nat.le_refl _
    · exact q_fail _ _ _
theorem setS_set {X : List Bytes} {s b : Nat} {t u : Bytes} (hu : X[s]? = some u) (ht : t.length = 64) (hb : b ≤ 64) : setS X s (t.take b) = X.set s (t.take b ++ u.drop b) := by
  unfold setS
  have hl : (t.take b).length = b := by simp; omega
  rw [hl]
  apply List.ext_getElem?
  intro i
  rw [List.getElem?_modify, List.getElem?_set]
  by_cases hi : s = i
  · subst hi
    obtain ⟨hs, rfl⟩ := List.getElem?_eq_some_iff.1 hu
    simp [hs]
  · simp [hi]
end Go.Cz.Dk
namespace Go.Proofs.YtjcjpekndeoonaaGreatDoor
open Go.RowKit Go.Cz Go.Cz.Dk
set_option linter.unusedSimpArgs false
set_option linter.unusedVariables false
attribute [local go_sem] bs_size bs_extract bs_append bs_toList
attribute [local irreducible] cList

def tcells (l : List Bytes) : List Value := l.map fun t => .string (bs t)
/-- The cells of a pending write. -/
def rcells (p : Nat × Bytes) : List Value := [.int .i64 (p.1 : Int), .string (bs p.2)]
def ArmAt (ar : Bool) (x y z : Int) (al : Option (Int × Int × Int)) : Prop := (ar = false ∧ al = none) ∨ (ar = true ∧ al = some (x, y, z))
/-- The reference disk m lies at block b, and takes the blocks S. -/
structure RefAt' (w : World) (b : Nat) (m : Dm) (S : List Nat) (sb cap : Nat) (pv : Value) (ar : Bool) (x y z : Int) : Prop where
  main : w.heap[b]? = some (.cells #[.slice (some ⟨sb, 0, none⟩) m.st.length cap, pv, .bool (!m.off), .bool ar, .int .i64 x, .int .i64 y, .int .i64 z] 79 (0, 0))
  stab : w.ownsRow 0 9 1 (.slice (some ⟨sb, 0, none⟩) m.st.length cap) m.st.length (tcells m.st)
  row : w.ownsRow 0 92 2 pv m.q.length (m.q.flatMap rcells)
  arm : ArmAt ar x y z m.al
  own : S = b :: sb :: pv.ownBlock.toList
  nodup : S.Nodup
  ok : m.ok
  few : m.st.length ≤ 4000
def RefAt (w : World) (b : Nat) (m : Dm) (S : List Nat) : Prop := ∃ sb cap pv ar x y z, RefAt' w b m S sb cap pv ar x y z
section
variable {w w' : World} {b : Nat} {m : Dm} {S : List Nat} {sb cap : Nat} {pv : Value} {ar : Bool} {x y z : Int}
theorem RefAt'.parts (h : RefAt' w b m S sb cap pv ar x y z) : b ∈ S ∧ sb ∈ S ∧ b ≠ sb ∧ pv.ownBlock ≠ some b ∧ pv.ownBlock ≠ some sb ∧ (∀ k, pv.ownBlock = some k → k ∈ S) := by
  have hn := h.nodup
  have ho := h.own
  subst ho
  refine ⟨by simp, by simp, ?_, ?_, ?_, ?_⟩
  · simp at hn; exact hn.1.1
  · intro e; rw [e] at hn; simp at hn
  · intro e; rw [e] at hn; simp at hn
  · intro k e; rw [e]; simp
theorem row_block {base : Nat} {e : TypeId} {size n : Nat} {v : Value} {xs : List Value} (h : w.ownsRow base e size v n xs) : ∀ k, v.ownBlock = some k → k < w.heap.size := fun k hk => (h.lt k hk).2
theorem row_mod {base : Nat} {e : TypeId} {size n : Nat} {v : Value} {xs : List Value} {S0 : List Nat} (h : w.ownsRow base e size v n xs) (hm : Mod S0 w w') (hd : ∀ k, v.ownBlock = some k → k ∉ S0) : w'.ownsRow base e size v n xs := by
  refine ⟨h.1, ?_⟩
  rcases h.2 with hn | ⟨g, cap, cur, rfl, h1, hg, r⟩
  · exact .inl hn
  · exact .inr ⟨g, cap, cur, rfl, h1, hm.heap hg (hd g rfl), r⟩
theorem RefAt'.lt (h : RefAt' w b m S sb cap pv ar x y z) : ∀ k ∈ S, k < w.heap.size := by
  intro k hk
  rw [h.own] at hk
  rcases List.mem_cons.1 hk with rfl | hk
  · exact lt_of_block h.main
  rcases List.mem_cons.1 hk with rfl | hk
  · exact row_block h.stab k rfl
  · exact row_block h.row k (by simpa using hk)
theorem RefAt'.mod {S0 : List Nat} (h : RefAt' w b m S sb cap pv ar x y z) (hm : Mod S0 w w') (hd : ∀ k ∈ S, k ∉ S0) : RefAt' w' b m S sb cap pv ar x y z := by
  obtain ⟨bS, sS, _, _, _, qS⟩ := h.parts
  exact ⟨hm.heap h.main (hd _ bS), row_mod h.stab hm (fun k hk => by cases hk; exact hd _ sS), row_mod h.row hm (fun k hk => hd _ (qS k hk)), h.arm, h.own, h.nodup, h.ok, h.few⟩
theorem RefAt'.below (h : RefAt' w b m S sb cap pv ar x y z) (hb : Below w.heap.size w w') : RefAt' w' b m S sb cap pv ar x y z := h.mod (Mod.ofBelow hb []) (by simp)
/-- What is known of the disk's own cells. -/
theorem RefAt'.cells (h : RefAt' w b m S sb cap pv ar x y z) : b < w.heap.size ∧ w.cell? ⟨b, 0, none⟩ = some (.slice (some ⟨sb, 0, none⟩) m.st.length cap) ∧ w.cell? ⟨b, 1, none⟩ = some pv ∧ w.cell? ⟨b, 2, none⟩ = some (.bool (!m.off)) ∧
    w.cell? ⟨b, 3, none⟩ = some (.bool ar) ∧ w.cell? ⟨b, 4, none⟩ = some (.int .i64 x) ∧ w.cell? ⟨b, 5, none⟩ = some (.int .i64 y) ∧ w.cell? ⟨b, 6, none⟩ = some (.int .i64 z) ∧ (∀ i, w.frozen? ⟨b, i, none⟩ = false) := by
  refine ⟨lt_of_block h.main, ?_, ?_, ?_, ?_, ?_, ?_, ?_, fun i => free_of_heap h.main⟩ <;> · rw [cell_of_heap h.main]; simp
theorem RefAt'.text (h : RefAt' w b m S sb cap pv ar x y z) {i : Nat} {t : Bytes} (hi : m.st[i]? = some t) : sb < w.heap.size ∧ w.cell? ⟨sb, i, none⟩ = some (.string (bs t)) ∧ w.frozen? ⟨sb, i, none⟩ = false := by
  have hl := (List.getElem?_eq_some_iff.1 hi).1
  exact ⟨row_block h.stab sb rfl, by rw [h.stab.cellAt i (by omega)]; simp [tcells, hi], h.stab.frozenAt i⟩
theorem rflat_get : ∀ (q : List (Nat × Bytes)) (j i : Nat) (p : Nat × Bytes), q[j]? = some p → i < 2 → (q.flatMap rcells)[j * 2 + i]? = (rcells p)[i]?
  | [], j, i, p, h, _ => by simp at h
  | x :: q, 0, i, p, h, hi => by
    simp at h; subst h
    rw [List.flatMap_cons, List.getElem?_append_left (by simp [rcells]; omega)]
    simp
  | x :: q, j + 1, i, p, h, hi => by
    rw [List.flatMap_cons, List.getElem?_append_right (by simp [rcells]; omega)]
    rw [← rflat_get q j i p (by simpa using h) hi]
    congr 1
    simp [rcells]; omega
/-- The value of the list of pending writes. -/
theorem RefAt'.form (h : RefAt' w b m S sb cap pv ar x y z) : ∃ a c, pv = .slice a m.q.length c ∧ m.q.length ≤ c ∧ ∀ (j : Nat) p, m.q[j]? = some p → ∃ g, a = some ⟨g, 0, none⟩ ∧ g < w.heap.size ∧ w.cell? ⟨g, j * 2, none⟩ = some (.int .i64 (p.1 : Int)) ∧ w.cell? ⟨g, j * 2 + 1, none⟩ = some (.string (bs p.2)) := by
  rcases h.row.2 with ⟨rfl, hn⟩ | ⟨g, c, cur, rfl, _, hg, hnc, _⟩
  · exact ⟨none, 0, by rw [hn], by omega, fun j p hp => by have := (List.getElem?_eq_some_iff.1 hp).1; omega⟩
  · refine ⟨_, c, rfl, hnc, fun j p hp => ⟨g, rfl, lt_of_block hg, ?_⟩⟩
    have hj : j < m.q.length := (List.getElem?_eq_some_iff.1 hp).1
    have key : ∀ i, i < 2 → w.cell? ⟨g, j * 2 + i, none⟩ = (rcells p)[i]? := fun i hi => by
      rw [h.row.cellAt (j * 2 + i) (by omega), rflat_get m.q j i p hp hi]
    exact ⟨by simpa [rcells] using key 0 (by omega), by simpa [rcells] using key 1 (by omega)⟩
/-- What is left of a reference disk: it is m' now. -/
def RfIn (b : Nat) (m' : Dm) (S : List Nat) (w w' : World) : Prop := ∃ S', RefAt w' b m' S' ∧ Upd S S' w w'
def RfPost (b : Nat) (m' : Dm) (v : Value) (S : List Nat) (w : World) (e : Ending) (w' : World) : Prop := e = .returned v ∧ RfIn b m' S w w'
theorem RefAt'.upd {m' : Dm} {pv' : Value} {ar' : Bool} {x' y' z' : Int} (h : RefAt' w b m S sb cap pv ar x y z) (hm : Mod S w w')
    (hmain : w'.heap[b]? = some (.cells #[.slice (some ⟨sb, 0, none⟩) m.st.length cap, pv', .bool (!m'.off), .bool ar', .int .i64 x', .int .i64 y', .int .i64 z'] 79 (0, 0)))
    (hlen : m'.st.length = m.st.length) (hstab : w'.ownsRow 0 9 1 (.slice (some ⟨sb, 0, none⟩) m.st.length cap) m.st.length (tcells m'.st))
    (hrow : w'.ownsRow 0 92 2 pv' m'.q.length (m'.q.flatMap rcells)) (harm : ArmAt ar' x' y' z' m'.al) (hown : ∀ k, pv'.ownBlock = some k → pv.ownBlock = some k ∨ w.heap.size ≤ k) (hok : m'.ok) :
    RfIn b m' S w w' := by
  obtain ⟨bS, sS, hbs, hqb, hqs, qS⟩ := h.parts
  have hlt := h.lt
  refine ⟨b :: sb :: pv'.ownBlock.toList, ⟨sb, cap, pv', ar', x', y', z', by rw [hlen]; exact hmain, by rw [hlen]; exact hstab, hrow, harm, rfl, ?_, hok, by rw [hlen]; exact h.few⟩, hm, ?_⟩
  · have h1 : pv'.ownBlock ≠ some b := fun e => by
      rcases hown b e with e1 | e1
      · exact hqb e1
      · have := hlt b bS; omega
    have h2 : pv'.ownBlock ≠ some sb := fun e => by
      rcases hown sb e with e1 | e1
      · exact hqs e1
      · have := hlt sb sS; omega
    cases hp : pv'.ownBlock with
    | none => simpa using hbs
    | some k =>
      rw [hp] at h1 h2
      simp at h1 h2 ⊢
      exact ⟨⟨hbs, fun e => h1 e.symm⟩, fun e => h2 e.symm⟩
  · intro k hk
    rcases List.mem_cons.1 hk with rfl | hk
    · exact .inl bS
    rcases List.mem_cons.1 hk with rfl | hk
    · exact .inl sS
    · rcases hown k (by simpa using hk) with e | e
      · exact .inl (qS k e)
      · exact .inr e
theorem RefAt.in (h : RefAt w b m S) : RfIn b m S w w := ⟨S, h, Upd.refl _ _⟩
theorem RefAt.below (h : RefAt w b m S) (hb : Below w.heap.size w w') : RefAt w' b m S := by
  obtain ⟨sb, cap, pv, ar, x, y, z, h⟩ := h
  exact ⟨sb, cap, pv, ar, x, y, z, h.below hb⟩
theorem RfIn.then {m1 m2 : Dm} {w2 : World} (h : RfIn b m1 S w w') (k : ∀ S', RefAt w' b m1 S' → RfIn b m2 S' w' w2) : RfIn b m2 S w w2 := by
  obtain ⟨S1, h1, u1⟩ := h
  obtain ⟨S2, h2, u2⟩ := k S1 h1
  exact ⟨S2, h2, u1.trans u2⟩
theorem RfIn.below {w2 : World} (h : RfIn b m S w w') (hb : Below w'.heap.size w' w2) : RfIn b m S w w2 := by
  obtain ⟨S1, h1, u1⟩ := h
  exact ⟨S1, h1.below hb, u1.below hb⟩
/-- A sector is written whole. -/
theorem RefAt'.setText (h : RefAt' w b m S sb cap pv ar x y z) (i : Nat) {t : Bytes} (ht : t.length = 64) : RfIn b { m with st := m.st.set i t } S w (w.setCell ⟨sb, i, none⟩ (.string (bs t))) := by
  obtain ⟨bS, sS, hbs, hqb, hqs, qS⟩ := h.parts
  refine h.upd ((Mod.refl _ _).setCell (.inl sS) _) ?_ (by simp) ?_ (ownsRow_setCell_other h.row hqs _) h.arm (fun k hk => .inl hk) ⟨?_, ?_, h.ok.2.2⟩
  · rw [setCell_heap_ne hbs]; exact h.main
  · have := (h.stab.stored i (.string (bs t))).1
    simpa [tcells, List.map_set] using this
  · intro s hs
    rcases List.mem_or_eq_of_mem_set hs with hs | rfl
    · exact h.ok.1 s hs
    · exact ht
  · intro p hp; have := h.ok.2.1 p hp; simpa using this
end
theorem setS_full {st : List Bytes} (h : ∀ s ∈ st, s.length = 64) {i : Nat} {t : Bytes} (ht : t.length = 64) : setS st i t = st.set i t := by
  unfold setS
  apply List.ext_getElem?
  intro j
  rw [List.getElem?_modify, List.getElem?_set]
  by_cases hj : i = j
  · subst hj
    by_cases hl : i < st.length
    · have := h st[i] (List.getElem_mem _)
      simp [hl, List.drop_of_length_le (by omega : st[i].length ≤ t.length)]
    · simp [hl]
  · simp [hj]

set_option maxHeartbeats 1000000 in
theorem rset_c (b i : Nat) (t : Bytes) (m : Dm) (S : List Nat) (w : World) (h : RefAt w b m S) (hi : i < m.st.length) (ht : t.length = 64) :
    Calls Tryz.prog 64 #[.pointer (some ⟨b, 0, none⟩), .int .i64 (i : Int), .string (bs t)] w (RfPost b { m with st := m.st.set i t } (.tuple #[]) S w) := by
  obtain ⟨sb, cap, pv, ar, x, y, z, h⟩ := h
  obtain ⟨hb, c0, -, -, -, -, -, -, -⟩ := h.cells
  obtain ⟨hs, s0, s1⟩ := h.text (List.getElem?_eq_getElem hi)
  have Hend := Lib.hid (h.setText i ht)
  clear h ht
  go_enter Tryz.func64, Tryz.ntmps64
  go_wp2
  go_end0
  exact ⟨rfl, Hend.out⟩
set_option maxRecDepth 5000 in
set_option maxHeartbeats 1000000 in
theorem rsettle_c (b n : Nat) (m : Dm) (S : List Nat) (w : World) (h : RefAt w b m S) (hn : n ≤ m.q.length) (hl : m.q.length ≤ 1000000) :
    Calls Tryz.prog 63 #[.pointer (some ⟨b, 0, none⟩), .int .i64 (n : Int)] w (RfPost b { m with st := Dk.settle m.st (m.q.take n) } (.tuple #[]) S w) := by
  have H0 : Hid (RfIn b { m with st := Dk.settle m.st (m.q.take 0) } S w w) := by
    have : ({ m with st := Dk.settle m.st (m.q.take 0) } : Dm) = m := by cases m; rfl
    rw [this]
    exact h.in
  have Hok : Hid m.ok := by obtain ⟨_, _, _, _, _, _, _, h⟩ := h; exact h.ok
  clear h
  go_enter Tryz.func63, Tryz.ntmps63
  go_wp2
  go_loopg [4] n (fun gk i wr => ∃ j : Nat, gk = n - j ∧ j ≤ n ∧ i = .int .i64 j ∧ Hid (RfIn b { m with st := Dk.settle m.st (m.q.take j) } S w wr))
  case atStart => exact ⟨0, rfl, Nat.zero_le _, rfl, H0.out⟩
  case round =>
    rename_i J1 K1 hJ1 hK1
    obtain ⟨j, rfl, hj, rfl, hr⟩ := hrel
    by_cases hlt : j < n
    · obtain ⟨p, hp⟩ : ∃ p, m.q[j]? = some p := ⟨_, List.getElem?_eq_getElem (by omega)⟩
      obtain ⟨hp1, hp2⟩ := Hok.out.2.1 p (List.mem_of_getElem? hp)
      obtain ⟨S1, ⟨sb, cap, pv, ar, x, y, z, h1⟩, u1⟩ := hr.out
      obtain ⟨a, c, rfl, hc, hf⟩ := h1.form
      obtain ⟨g, rfl, hg, g0, g1⟩ := hf j p hp
      obtain ⟨hb, c0, c1, -, -, -, -, -, -⟩ := h1.cells
      have Hst : Hid (Dk.settle m.st (m.q.take (j + 1)) = (Dk.settle m.st (m.q.take j)).set p.1 p.2) := by
        obtain ⟨hj', he⟩ := List.getElem?_eq_some_iff.1 hp
        show _ = _
        rw [List.take_succ_eq_append_getElem hj', he, settle_snoc, setS_full (settle_all _ _ Hok.out.1 fun p hp => (Hok.out.2.1 p (List.mem_of_mem_take hp)).2) hp2]
      have Hset := Lib.hid fun (wd : World) (hd : Below wr.heap.size wr wd) => rset_c b p.1 p.2 { m with st := Dk.settle m.st (m.q.take j) } S1 wd (RefAt.below ⟨sb, cap, _, ar, x, y, z, h1⟩ hd) (by rw [length_settle]; exact hp1) hp2
      have Hr := Lib.hid (And.intro h1 u1)
      clear hr hf hp hp2 h1 u1
      dsimp only at c1 hc
      go_wp2_with fail
      refine wp_region_can [] (List.range 18) (by kernel_rfl) (by kernel_rfl) ?_
      iterate 17 (refine cl_do rfl rfl rfl rfl (fun _ _ => ?_); go_wp2_with fail)
      refine cl_do rfl rfl rfl rfl (fun _ _ => ?_)
      go_wp2_with fail
      go_at_call 64
      refine (Hset.out _ (Below.refl _ _).drew).mono ?_
      rintro e w2 ⟨rfl, S2, h2, u2⟩
      have H2 : Hid (RfIn b { m with st := Dk.settle m.st (m.q.take (j + 1)) } S w w2) := ⟨S2, by rw [Hst.out]; exact h2, (Hr.out.2.below (Below.refl _ _).drew).trans u2⟩
      clear h2 u2
      go_wp2_with fail
      refine cl_nil ?_
      go_wp2_with fail
      go_roundg (n - (j + 1))
      case measure => omega
      case rel => exact ⟨j + 1, rfl, by omega, by go_num, H2⟩
    · obtain rfl : j = n := by omega
      clear hJ1 hK1
      go_wp2_with fail
      go_end0
      exact ⟨rfl, hr.out⟩
set_option maxHeartbeats 1000000 in
theorem rStart_c (b : Nat) (m : Dm) (S : List Nat) (w : World) (h : RefAt w b m S) :
    Calls Tryz.prog 23 #[.pointer (some ⟨b, 0, none⟩)] w (RfPost b (Dk.start m) (.tuple #[]) S w) := by
  obtain ⟨sb, cap, pv, ar, x, y, z, h⟩ := h
  obtain ⟨hb, -, -, c2, c3, -, -, -, hf⟩ := h.cells
  obtain ⟨bS, sS, hbs, hqb, hqs, qS⟩ := h.parts
  have f2 := hf 2
  have f3 := hf 3
  have Hend : Hid (RfIn b (Dk.start m) S w ((w.setCell ⟨b, 2, none⟩ (.bool true)).setCell ⟨b, 3, none⟩ (.bool false))) := by
    have h1 := setCell_heap (i := 2) h.main (.bool true)
    have h2 := setCell_heap (i := 3) h1 (.bool false)
    refine h.upd (pv' := pv) (ar' := false) (x' := x) (y' := y) (z' := z) (((Mod.refl S w).setCell (.inl bS) _).setCell (.inl bS) _) (by rw [h2]; simp [Dk.start]) rfl ?_ ?_ (.inl ⟨rfl, rfl⟩) (fun k hk => .inl hk) (ok_start h.ok)
    · have hne : (Value.slice (some ⟨sb, 0, none⟩) m.st.length cap).ownBlock ≠ some b := by simpa [Value.ownBlock] using fun e => hbs e.symm
      exact ownsRow_setCell_other (ownsRow_setCell_other h.stab hne _) hne _
    · exact ownsRow_setCell_other (ownsRow_setCell_other h.row hqb _) hqb _
  clear h hf hqb hqs
  go_enter Tryz.func23, Tryz.ntmps23
  go_wp2
  go_end0
  exact ⟨rfl, Hend.out⟩
set_option maxHeartbeats 1000000 in
theorem rArm_c (b : Nat) (a p q : Int) (m : Dm) (S : List Nat) (w : World) (h : RefAt w b m S) (ha : a ≤ 9223372036854775807) :
    Calls Tryz.prog 25 #[.pointer (some ⟨b, 0, none⟩), .int .i64 a, .int .i64 p, .int .i64 q] w (RfPost b (Dk.arm m a p q) (.tuple #[]) S w) := by
  have h0 := h
  obtain ⟨sb, cap, pv, ar, x, y, z, h⟩ := h
  obtain ⟨hb, -, -, c2, c3, c4, c5, c6, hf⟩ := h.cells
  obtain ⟨bS, sS, hbs, hqb, hqs, qS⟩ := h.parts
  by_cases ho : m.off = true
  · have Hend : Hid (RfIn b (Dk.arm m a p q) S w w) := by unfold Dk.arm; rw [if_pos ho]; exact h0.in
    simp only [ho, Bool.not_true] at c2
    clear h h0 hf ho hqb hqs
    go_enter Tryz.func25, Tryz.ntmps25
    go_wp2
    go_end0
    exact ⟨rfl, Hend.out⟩
  · have ho' : m.off = false := by simpa using ho
    simp only [ho', Bool.not_false] at c2
    have f3 := hf 3
    have f4 := hf 4
    have f5 := hf 5
    have f6 := hf 6
    have Hend : Hid (RfIn b (Dk.arm m a p q) S w ((((w.setCell ⟨b, 3, none⟩ (.bool (decide (0 ≤ a)))).setCell ⟨b, 4, none⟩ (.int .i64 a)).setCell ⟨b, 5, none⟩ (.int .i64 p)).setCell ⟨b, 6, none⟩ (.int .i64 q))) := by
      have h1 := setCell_heap (i := 3) h.main (.bool (decide (0 ≤ a)))
      have h2 := setCell_heap (i := 4) h1 (.int .i64 a)
      have h3 := setCell_heap (i := 5) h2 (.int .i64 p)
      have h4 := setCell_heap (i := 6) h3 (.int .i64 q)
      have he : Dk.arm m a p q = { m with al := if 0 ≤ a then some (a, p, q) else none } := by unfold Dk.arm; rw [if_neg ho]
      rw [he]
      refine h.upd (pv' := pv) (ar' := decide (0 ≤ a)) (x' := a) (y' := p) (z' := q) (((((Mod.refl S w).setCell (.inl bS) _).setCell (.inl bS) _).setCell (.inl bS) _).setCell (.inl bS) _) (by rw [h4]; simp) rfl ?_ ?_ ?_ (fun k hk => .inl hk) (he ▸ ok_arm h.ok a p q ha)
      · have hne : (Value.slice (some ⟨sb, 0, none⟩) m.st.length cap).ownBlock ≠ some b := by simpa [Value.ownBlock] using fun e => hbs e.symm
        exact ownsRow_setCell_other (ownsRow_setCell_other (ownsRow_setCell_other (ownsRow_setCell_other h.stab hne _) hne _) hne _) hne _
      · exact ownsRow_setCell_other (ownsRow_setCell_other (ownsRow_setCell_other (ownsRow_setCell_other h.row hqb _) hqb _) hqb _) hqb _
      · by_cases h0 : 0 ≤ a
        · exact .inr ⟨by simp [h0], by simp [h0]⟩
        · exact .inl ⟨by simp [h0], by simp [h0]⟩
    clear h h0 hf hqb hqs ho ho'
    go_enter Tryz.func25, Tryz.ntmps25
    go_wp2
    go_end0
    exact ⟨rfl, Hend.out⟩
end Go.Proofs.YtjcjpekndeoonaaGreatDoor
namespace Go.Proofs.YtjcjpekndeoonaaGreatDoor
open Go.RowKit Go.Cz Go.Cz.Dk
set_option linter.unusedSimpArgs false
set_option linter.unusedVariables false
attribute [local go_sem] bs_size bs_extract bs_append bs_toList
attribute [local irreducible] cList

theorem rmain_facts {w : World} {b : Nat} {m : Dm} {S : List Nat} {sb cap : Nat} {pv : Value} {ar : Bool} {x y z : Int} (h : RefAt' w b m S sb cap pv ar x y z) :
    w.frozen? ⟨b, 1, none⟩ = false ∧ w.frozen? ⟨b, 2, none⟩ = false ∧ w.frozen? ⟨b, 3, none⟩ = false ∧ w.frozen? ⟨b, 4, none⟩ = false := ⟨free_of_heap h.main, free_of_heap h.main, free_of_heap h.main, free_of_heap h.main⟩
theorem rfail_end {w : World} {b : Nat} {m : Dm} {S : List Nat} {sb cap : Nat} {pv : Value} {ar : Bool} {x y z : Int} (h : RefAt' w b m S sb cap pv ar x y z) :
    RfIn b { st := m.st, q := [], off := true, al := none } S w (((w.setCell ⟨b, 1, none⟩ (.slice none 0 0)).setCell ⟨b, 2, none⟩ (.bool false)).setCell ⟨b, 3, none⟩ (.bool false)) := by
  obtain ⟨bS, sS, hbs, hqb, hqs, qS⟩ := h.parts
  have h1 := setCell_heap (i := 1) h.main (.slice none 0 0)
  have h2 := setCell_heap (i := 2) h1 (.bool false)
  have h3 := setCell_heap (i := 3) h2 (.bool false)
  have hne : (Value.slice (some ⟨sb, 0, none⟩) m.st.length cap).ownBlock ≠ some b := by simpa [Value.ownBlock] using fun e => hbs e.symm
  exact h.upd (pv' := .slice none 0 0) (ar' := false) (x' := x) (y' := y) (z' := z) ((((Mod.refl S w).setCell (.inl bS) _).setCell (.inl bS) _).setCell (.inl bS) _) (by rw [h3]; simp) rfl
    (ownsRow_setCell_other (ownsRow_setCell_other (ownsRow_setCell_other h.stab hne _) hne _) hne _) (World.ownsRow_nil _ _ _ _) (.inl ⟨rfl, rfl⟩) (fun k hk => by cases hk) ⟨h.ok.1, by simp, by simp⟩
theorem rclear_end {w : World} {b : Nat} {m : Dm} {S : List Nat} {sb cap : Nat} {pv : Value} {ar : Bool} {x y z : Int} (h : RefAt' w b m S sb cap pv ar x y z) :
    RfIn b { m with q := [] } S w (w.setCell ⟨b, 1, none⟩ (.slice none 0 0)) := by
  obtain ⟨bS, sS, hbs, hqb, hqs, qS⟩ := h.parts
  have h1 := setCell_heap (i := 1) h.main (.slice none 0 0)
  have hne : (Value.slice (some ⟨sb, 0, none⟩) m.st.length cap).ownBlock ≠ some b := by simpa [Value.ownBlock] using fun e => hbs e.symm
  exact h.upd (pv' := .slice none 0 0) (ar' := ar) (x' := x) (y' := y) (z' := z) ((Mod.refl S w).setCell (.inl bS) _) (by rw [h1]; simp) rfl
    (ownsRow_setCell_other h.stab hne _) (World.ownsRow_nil _ _ _ _) h.arm (fun k hk => by cases hk) ⟨h.ok.1, by simp, h.ok.2.2⟩

set_option maxRecDepth 5000 in
set_option maxRecDepth 10000 in
set_option maxHeartbeats 2000000 in
theorem rFail_c (b : Nat) (wr bt : Int) (m : Dm) (S : List Nat) (w : World) (h : RefAt w b m S) (hl : m.q.length ≤ 1000000) :
    Calls Tryz.prog 21 #[.pointer (some ⟨b, 0, none⟩), .int .i64 wr, .int .i64 bt] w (RfPost b (Dk.fail m wr bt) (.tuple #[]) S w) := by
  have h0 := h
  obtain ⟨sb, cap, pv, ar, x, y, z, h⟩ := h
  obtain ⟨hb, -, c1, c2, -, -, -, -, -⟩ := h.cells
  by_cases ho : m.off = true
  · have Hend : Hid (RfIn b (Dk.fail m wr bt) S w w) := by unfold Dk.fail; rw [if_pos ho]; exact h0.in
    simp only [ho, Bool.not_true] at c2
    clear h h0 ho
    go_enter Tryz.func21, Tryz.ntmps21
    go_wp2
    go_end0
    exact ⟨rfl, Hend.out⟩
  have ho' : m.off = false := by simpa using ho
  simp only [ho', Bool.not_false] at c2
  obtain ⟨N, hN⟩ : ∃ N, N = clamp wr m.q.length := ⟨_, rfl⟩
  have hNl : N ≤ m.q.length := by rw [hN]; exact clamp_le _ _
  have eN : max 0 (min wr (m.q.length : Int)) = (N : Int) := by rw [hN]; unfold clamp; omega
  have HN := Lib.hid hN; clear hN
  have Hset := Lib.hid (rsettle_c b N m S w h0 hNl hl)
  have Hok := Lib.hid h.ok
  have Hfew := Lib.hid h.few
  obtain ⟨a, c, rfl, hc, -⟩ := h.form
  clear h0 h
  have Hfin : Hid (∀ (w1 w2 : World) (S1 : List Nat) (st2 : List Bytes), RfIn b { m with st := st2 } S w w1 → (Dk.fail m wr bt = { st := st2, q := [], off := true, al := none }) → ∃ S2 sb2 cap2 pv2 ar2 x2 y2 z2, RefAt' w1 b { m with st := st2 } S2 sb2 cap2 pv2 ar2 x2 y2 z2 ∧
      RfIn b (Dk.fail m wr bt) S w (((w1.setCell ⟨b, 1, none⟩ (.slice none 0 0)).setCell ⟨b, 2, none⟩ (.bool false)).setCell ⟨b, 3, none⟩ (.bool false))) := by
    intro w1 w2 S1 st2 h1 he
    obtain ⟨S2, ⟨sb2, cap2, pv2, ar2, x2, y2, z2, h2⟩, u2⟩ := h1
    refine ⟨S2, sb2, cap2, pv2, ar2, x2, y2, z2, h2, ?_⟩
    rw [he]
    obtain ⟨S3, h3, u3⟩ := rfail_end h2
    exact ⟨S3, h3, u2.trans u3⟩
  by_cases hlt : N < m.q.length
  · obtain ⟨p, hp⟩ : ∃ p, m.q[N]? = some p := ⟨m.q[N], List.getElem?_eq_getElem hlt⟩
    obtain ⟨hp1, hp2⟩ := Hok.out.2.1 p (List.mem_of_getElem? hp)
    obtain ⟨K, hK⟩ : ∃ K, K = clamp bt 64 := ⟨_, rfl⟩
    have eK : max 0 (min bt 64) = (K : Int) := by rw [hK]; unfold clamp; omega
    have hK64 : K ≤ 64 := by rw [hK]; exact clamp_le _ _
    have HK := Lib.hid hK; clear hK
    have hKp : K ≤ p.2.length := by rw [hp2]; exact hK64
    have hp64 : p.2.length ≤ 64 := by omega
    have Hp2 := Lib.hid hp2; clear hp2
    have Hp := Lib.hid hp; clear hp
    have He : Hid (Dk.fail m wr bt = { st := setS (Dk.settle m.st (m.q.take N)) p.1 (p.2.take K), q := [], off := true, al := none }) := by
      show _ = _
      unfold Dk.fail
      rw [if_neg ho, ← HN.out, ← HK.out, Hp.out]
    clear ho
    go_enter Tryz.func21, Tryz.ntmps21
    go_wp2_with fail
    go_at_call 63
    refine Hset.out.mono ?_
    rintro e w1 ⟨rfl, S1, ⟨sb1, cap1, pv1, ar1, x1, y1, z1, h1⟩, u1⟩
    clear c1 c2 hb hc
    obtain ⟨a1, c', rfl, hc', hf⟩ := h1.form
    obtain ⟨g, rfl, hg, g0, g1⟩ := hf N p Hp.out
    obtain ⟨hb, c0, c1, -, -, -, -, -, -⟩ := h1.cells
    obtain ⟨f1, f2, f3, -⟩ := rmain_facts h1
    dsimp only at c0 c1 hc'
    by_cases hK0 : 0 < K
    · obtain ⟨t, ht⟩ : ∃ t, (Dk.settle m.st (m.q.take N))[p.1]? = some t := ⟨_, List.getElem?_eq_getElem (by rw [length_settle]; exact hp1)⟩
      have ht64 : t.length = 64 := settle_all _ _ Hok.out.1 (fun p' hp' => (Hok.out.2.1 p' (List.mem_of_mem_take hp')).2) t (List.mem_of_getElem? ht)
      obtain ⟨hs, s0, s1⟩ := h1.text ht
      have hsl : p.1 < m.st.length := hp1
      have hKt : K ≤ t.length := by omega
      have hKt' : t.length ≤ 64 := by omega
      have Hdt : Hid ((t.drop K).take (t.length - K) = t.drop K) := List.take_of_length_le (by simp)
      have Hset2 := Lib.hid fun (wd : World) (hd : Below w1.heap.size w1 wd) => rset_c b p.1 (p.2.take K ++ t.drop K) { m with st := Dk.settle m.st (m.q.take N) } S1 wd (RefAt.below ⟨sb1, cap1, _, ar1, x1, y1, z1, h1⟩ hd) (by rw [length_settle]; exact hp1) (by simp; omega)
      have Hst : Hid ((Dk.settle m.st (m.q.take N)).set p.1 (p.2.take K ++ t.drop K) = setS (Dk.settle m.st (m.q.take N)) p.1 (p.2.take K)) := (setS_set ht Hp2.out hK64).symm
      have Hu1 := Lib.hid u1
      have Hlen : Hid ((Dk.settle m.st (m.q.take N)).length = m.st.length) := length_settle _ _
      rw [length_settle] at c0
      clear hf h1 u1 ht ht64 Hset
      go_wp2_with fail
      refine wp_region_can [] (List.range 19) (by kernel_rfl) (by kernel_rfl) ?_
      iterate 18 (refine cl_do rfl rfl rfl rfl (fun _ _ => ?_); go_wp2_with fail)
      refine cl_do rfl rfl rfl rfl (fun _ _ => ?_)
      go_wp2_with fail
      go_at_call 64
      rw [Hdt.out]
      refine (Hset2.out _ (by repeat (first | exact Below.refl _ _ | (refine Below.drew ?_) | (refine Below.alloc ?_ (by (try simp only [World.size_alloc, World.size_setCell, World.size_drew] at *); omega) _) | (refine Below.setCell ?_ (by (try simp only [World.size_alloc, World.size_setCell, World.size_drew] at *); omega) _)))).mono ?_
      rintro e w2 ⟨rfl, h2⟩
      have hin : RfIn b { m with st := setS (Dk.settle m.st (m.q.take N)) p.1 (p.2.take K) } S w w2 := by
        obtain ⟨S2, h2, u2⟩ := h2
        refine ⟨S2, by rw [← Hst.out]; exact h2, (Hu1.out.below ?_).trans u2⟩
        repeat (first | exact Below.refl _ _ | (refine Below.drew ?_) | (refine Below.alloc ?_ (by (try simp only [World.size_alloc, World.size_setCell, World.size_drew] at *); omega) _) | (refine Below.setCell ?_ (by (try simp only [World.size_alloc, World.size_setCell, World.size_drew] at *); omega) _))
      obtain ⟨S2, sb2, cap2, pv2, ar2, x2, y2, z2, h2, hend⟩ := Hfin.out w2 w2 S _ hin He.out
      have Hend := Lib.hid hend
      clear hend hin c0 c1 f1 f2 f3 hb g0 g1 s0 s1 hg hs
      obtain ⟨hb, c0, c1, c2, c3, -, -, -, -⟩ := h2.cells
      obtain ⟨f1, f2, f3, -⟩ := rmain_facts h2
      clear h2
      go_wp2_with fail
      refine cl_nil ?_
      go_wp2_with fail
      go_end0
      exact ⟨rfl, Hend.out⟩
    · obtain rfl : K = 0 := by omega
      obtain ⟨o, ho2⟩ : ∃ o : Obj, o = .cells #[.int .i64 (p.1 : Int), .string (bs p.2)] 92 := ⟨_, rfl⟩
      have hin : RfIn b { m with st := setS (Dk.settle m.st (m.q.take N)) p.1 (p.2.take 0) } S w (w1.alloc o) := by
        rw [show setS (Dk.settle m.st (m.q.take N)) p.1 (p.2.take 0) = Dk.settle m.st (m.q.take N) by simp [setS, modify_nil]]
        exact RfIn.below ⟨S1, ⟨sb1, cap1, _, ar1, x1, y1, z1, h1⟩, u1⟩ (by repeat (first | exact Below.refl _ _ | (refine Below.drew ?_) | (refine Below.alloc ?_ (by (try simp only [World.size_alloc, World.size_setCell, World.size_drew] at *); omega) _) | (refine Below.setCell ?_ (by (try simp only [World.size_alloc, World.size_setCell, World.size_drew] at *); omega) _)))
      obtain ⟨S2, sb2, cap2, pv2, ar2, x2, y2, z2, h2, hend⟩ := Hfin.out _ w1 S _ hin He.out
      rw [ho2] at hend
      have Hend := Lib.hid hend
      obtain ⟨-, -, -, d2, d3, -, -, -, -⟩ := h1.cells
      clear hend hin h2 ho2 hf h1 u1 Hset
      go_wp2_with fail
      go_end0
      have he := Hend.out
      simp only [World.setCell_alloc_past, World.size_setCell, hb] at he
      exact ⟨rfl, he⟩
  · obtain rfl : N = m.q.length := by omega
    have He : Hid (Dk.fail m wr bt = { st := Dk.settle m.st (m.q.take m.q.length), q := [], off := true, al := none }) := by
      show _ = _
      unfold Dk.fail
      rw [if_neg ho, ← HN.out]
      simp
    clear ho
    go_enter Tryz.func21, Tryz.ntmps21
    go_wp2_with fail
    go_at_call 63
    refine Hset.out.mono ?_
    rintro e w1 ⟨rfl, h1⟩
    obtain ⟨S2, sb2, cap2, pv2, ar2, x2, y2, z2, h2, hend⟩ := Hfin.out w1 w1 S _ h1 He.out
    have Hend := Lib.hid hend
    clear hend h1 c1 c2 hb hc Hset
    obtain ⟨a1, c', rfl, hc', -⟩ := h2.form
    obtain ⟨hb, -, c1, c2, c3, -, -, -, -⟩ := h2.cells
    obtain ⟨f1, f2, f3, -⟩ := rmain_facts h2
    dsimp only at c1 c2 hc'
    clear h2
    go_wp2_with fail
    go_end0
    exact ⟨rfl, Hend.out⟩

set_option maxRecDepth 10000 in
set_option maxHeartbeats 1000000 in
theorem rcount_c (b : Nat) (m : Dm) (S : List Nat) (w : World) (h : RefAt w b m S) (hl : m.q.length ≤ 1000000) :
    Calls Tryz.prog 102 #[.pointer (some ⟨b, 0, none⟩)] w (RfPost b (Dk.count m).1 (.int .i64 (Dk.count m).2) S w) := by
  have h0 := h
  obtain ⟨sb, cap, pv, ar, x, y, z, h⟩ := h
  obtain ⟨hb, -, -, -, c3, c4, c5, c6, -⟩ := h.cells
  obtain ⟨-, -, -, f4⟩ := rmain_facts h
  rcases h.arm with ⟨rfl, hal⟩ | ⟨rfl, hal⟩
  · have Hend : Hid (RfPost b (Dk.count m).1 (.int .i64 (Dk.count m).2) S w (.returned (.int .i64 0)) w) := by simp [Hid, RfPost, Dk.count, hal]; exact h0.in
    clear h h0 hal
    go_enter Tryz.func102, Tryz.ntmps102
    go_wp2
    go_ret
    exact Hend.out
  · have hx := h.ok.2.2 _ hal
    dsimp only at hx
    obtain ⟨hx0, hx1⟩ := hx
    by_cases hp : 0 < x
    · have hx2 : (x == 0) = false := by simp; omega
      obtain ⟨bS, sS, hbs, hqb, hqs, qS⟩ := h.parts
      have hne : (Value.slice (some ⟨sb, 0, none⟩) m.st.length cap).ownBlock ≠ some b := by simpa [Value.ownBlock] using fun e => hbs e.symm
      have h1 := setCell_heap (i := 4) h.main (.int .i64 (x - 1))
      have hin : RfIn b { m with al := some (x - 1, y, z) } S w (w.setCell ⟨b, 4, none⟩ (.int .i64 (x - 1))) :=
        h.upd (pv' := pv) (ar' := true) (x' := x - 1) (y' := y) (z' := z) ((Mod.refl S w).setCell (.inl bS) _) (by rw [h1]; simp) rfl (ownsRow_setCell_other h.stab hne _) (ownsRow_setCell_other h.row hqb _) (.inr ⟨rfl, rfl⟩) (fun k hk => .inl hk)
          ⟨h.ok.1, h.ok.2.1, fun v hv => by cases hv; exact ⟨by dsimp only; omega, by dsimp only; omega⟩⟩
      have Hend : Hid (RfPost b (Dk.count m).1 (.int .i64 (Dk.count m).2) S w (.returned (.int .i64 0)) (w.setCell ⟨b, 4, none⟩ (.int .i64 (x - 1)))) := by
        simp only [Hid, RfPost, Dk.count, hal, if_pos hp]
        exact ⟨trivial, hin⟩
      clear h h0 hal hin h1 hne hqb hqs
      go_enter Tryz.func102, Tryz.ntmps102
      go_wp2
      go_ret
      exact Hend.out
    · obtain rfl : x = 0 := by omega
      have Hf := Lib.hid (fun w1 (hw : Below w.heap.size w w1) => rFail_c b y z m S w1 (h0.below hw) hl)
      have Hend : Hid (∀ w1 w2, Below w.heap.size w w1 → RfIn b (Dk.fail m y z) S w1 w2 → RfPost b (Dk.count m).1 (.int .i64 (Dk.count m).2) S w (.returned (.int .i64 26)) w2) := by
        rintro w1 w2 hw ⟨S', hd, hu⟩
        simp only [RfPost, Dk.count, hal, if_neg (show ¬ (0 : Int) < 0 by omega)]
        exact ⟨trivial, S', hd, (Upd.ofBelow hw).trans hu⟩
      clear h h0 hal
      go_enter Tryz.func102, Tryz.ntmps102
      go_wp2_with fail
      refine wp_region_can [] (List.range 10) (by kernel_rfl) (by kernel_rfl) ?_
      iterate 9 (refine cl_do rfl rfl rfl rfl (fun _ _ => ?_); go_wp2_with fail)
      refine cl_do rfl rfl rfl rfl (fun _ _ => ?_)
      go_wp2_with fail
      go_at_call 21
      refine (Hf.out _ (by exact (Below.refl _ _).drew)).mono ?_
      rintro e w2 ⟨rfl, hpost⟩
      have Hp2 := Lib.hid (Hend.out _ w2 (by exact (Below.refl _ _).drew) hpost); clear hpost
      go_wp2_with fail
      refine cl_nil ?_
      go_wp2_with fail
      go_ret
      exact Hp2.out
end Go.Proofs.YtjcjpekndeoonaaGreatDoor
namespace Go.Proofs.YtjcjpekndeoonaaGreatDoor
open Go.RowKit Go.Cz Go.Cz.Dk
set_option linter.unusedSimpArgs false
set_option linter.unusedVariables false
attribute [local go_sem] bs_size bs_extract bs_append bs_toList
attribute [local irreducible] cList

set_option maxHeartbeats 2000000 in
theorem rSync_c (b : Nat) (m : Dm) (S : List Nat) (w : World) (h : RefAt w b m S) (hl : m.q.length ≤ 100000) :
    Calls Tryz.prog 85 #[.pointer (some ⟨b, 0, none⟩)] w (RfPost b (Dk.sync m).1 (.int .i64 (Dk.sync m).2) S w) := by
  have h0 := h
  obtain ⟨sb, cap, pv, ar, x, y, z, h⟩ := h
  obtain ⟨hb, -, -, c2, -, -, -, -, -⟩ := h.cells
  by_cases ho : m.off = true
  · have Hend : Hid (RfPost b (Dk.sync m).1 (.int .i64 (Dk.sync m).2) S w (.returned (.int .i64 26)) w) := by simp [Hid, RfPost, Dk.sync, ho]; exact h0.in
    simp only [ho, Bool.not_true] at c2
    clear h h0 ho
    go_enter Tryz.func85, Tryz.ntmps85
    go_wp2
    go_ret
    exact Hend.out
  have ho' : m.off = false := by simpa using ho
  simp only [ho', Bool.not_false] at c2
  have Hcount := Lib.hid (rcount_c b m S w h0 (by omega))
  by_cases hc : (Dk.count m).2 = 0
  · have he : Dk.sync m = ({ (Dk.count m).1 with st := Dk.settle (Dk.count m).1.st (Dk.count m).1.q, q := [] }, 0) := by simp [Dk.sync, ho, hc]
    have Hm' : Hid ((Dk.count m).1.q.length ≤ 100000) := by
      show (Dk.count m).1.q.length ≤ 100000
      have := q_count m
      omega
    rw [he]
    have Hc := Lib.hid hc
    clear h h0 ho ho' hc he
    go_enter Tryz.func85, Tryz.ntmps85
    go_wp2_with fail
    go_at_call 102
    refine Hcount.out.mono ?_
    rintro e w1 ⟨rfl, S1, hd1, hu1⟩
    rw [Hc.out]
    clear Hcount hb c2 Hc
    generalize (Dk.count m).1 = m1 at *
    have Hset := Lib.hid (rsettle_c b m1.q.length m1 S1 w1 hd1 (Nat.le_refl _) (by have := Hm'.out; omega))
    obtain ⟨sb1, cap1, pv1, ar1, x1, y1, z1, hd1⟩ := hd1
    obtain ⟨a, c, rfl, hcc, -⟩ := hd1.form
    obtain ⟨hb, -, c1, -, -, -, -, -, -⟩ := hd1.cells
    have Hu1 := Lib.hid hu1
    clear hd1 hu1
    go_wp2_with fail
    go_at_call 63
    refine Hset.out.mono ?_
    rintro e w2 ⟨rfl, S2, ⟨sb2, cap2, pv2, ar2, x2, y2, z2, hd2⟩, hu2⟩
    obtain ⟨hb2, -, e1, -, -, -, -, -, -⟩ := hd2.cells
    obtain ⟨f1, -⟩ := rmain_facts hd2
    have Hend : Hid (RfPost b { m1 with st := Dk.settle m1.st m1.q, q := [] } (.int .i64 0) S w (.returned (.int .i64 0)) (w2.setCell ⟨b, 1, none⟩ (.slice none 0 0))) := by
      obtain ⟨S3, h3, u3⟩ := rclear_end hd2
      rw [List.take_length] at h3
      exact ⟨rfl, S3, h3, (Hu1.out.trans hu2).trans u3⟩
    clear hd2 hu2 Hset hb c1
    go_wp2_with fail
    go_ret
    exact Hend.out
  · have he : Dk.sync m = Dk.count m := by simp [Dk.sync, ho, hc]
    have h26 : (Dk.count m).2 = 26 := by
      unfold Dk.count at hc ⊢
      split
      · simp_all
      · split
        · simp_all
        · rfl
    rw [he]
    rw [h26] at Hcount ⊢
    clear h h0 ho ho' hc he h26
    go_enter Tryz.func85, Tryz.ntmps85
    go_wp2_with fail
    go_at_call 102
    refine Hcount.out.mono ?_
    rintro e w1 ⟨rfl, hd1⟩
    have Hend : Hid (RfPost b (Dk.count m).1 (.int .i64 26) S w (.returned (.int .i64 26)) w1) := ⟨rfl, hd1⟩
    clear hd1 Hcount
    go_wp2_with fail
    go_ret
    exact Hend.out

theorem info_rpend : (Tryz.prog.info? 92).map (fun i => (i.zero, i.size, i.bytes)) = some (some (.agg #[.int .i64 0, .string ⟨#[]⟩]), 2, 24) := by kernel_rfl
theorem rpush_end {w W w2 : World} {b i : Nat} {m : Dm} {S : List Nat} {sb cap : Nat} {pv v' : Value} {ar : Bool} {x y z : Int} {t : Bytes} (h : RefAt' w b m S sb cap pv ar x y z) (hb : Below w.heap.size w W)
    (hrow : w2.ownsRow 0 92 2 v' (m.q.length + 1) (m.q.flatMap rcells ++ rcells (i, t))) (hgrow : W.grownBy w2 pv.ownBlock) (hblk : v'.ownBlock = pv.ownBlock ∨ v'.ownBlock = some W.heap.size)
    (hi : i < m.st.length) (ht : t.length = 64) :
    RfIn b { m with q := m.q ++ [(i, t)] } S w (w2.setCell ⟨b, 1, none⟩ v') ∧ b < w2.heap.size ∧ w2.frozen? ⟨b, 1, none⟩ = false ∧ w2.cell? ⟨b, 1, none⟩ = some pv := by
  obtain ⟨bS, sS, hbs, hqb, hqs, qS⟩ := h.parts
  have hlt := h.lt
  have keep : ∀ k, k < w.heap.size → some k ≠ pv.ownBlock → w2.heap[k]? = w.heap[k]? := fun k hk hne => (hgrow.block k (Nat.lt_of_lt_of_le hk hb.size) hne).trans (hb.block k hk)
  have hmain := (keep b (hlt b bS) (Ne.symm hqb)).trans h.main
  have hne : (Value.slice (some ⟨sb, 0, none⟩) m.st.length cap).ownBlock ≠ some b := by simpa [Value.ownBlock] using fun e => hbs e.symm
  have hv : v'.ownBlock ≠ some b := by
    rcases hblk with e | e
    · rw [e]; exact hqb
    · rw [e]; have := hlt b bS; have := hb.size; simp; omega
  have hm2 : Mod S w w2 := Mod.grown (Mod.ofBelow hb S) hgrow fun k hk => .inl (qS k hk)
  have hstab : w2.ownsRow 0 9 1 (.slice (some ⟨sb, 0, none⟩) m.st.length cap) m.st.length (tcells m.st) := by
    refine (row_mod h.stab (Mod.ofBelow hb []) (by simp)).kept hgrow (.inr ?_)
    simpa [Value.ownBlock] using fun e => hqs e.symm
  refine ⟨h.upd (pv' := v') (ar' := ar) (x' := x) (y' := y) (z' := z) (hm2.setCell (.inl bS) _) ?_ rfl (ownsRow_setCell_other hstab hne _) ?_ h.arm ?_ ⟨h.ok.1, ?_, h.ok.2.2⟩, lt_of_block hmain, free_of_heap hmain, by rw [cell_of_heap hmain]; simp⟩
  · rw [setCell_heap hmain]; simp
  · have := ownsRow_setCell_other (a := ⟨b, 1, none⟩) hrow hv v'
    simpa using this
  · intro k hk
    rcases hblk with e | e
    · rw [e] at hk; exact .inl hk
    · rw [e] at hk; cases hk; exact .inr hb.size
  · intro p hp
    rcases List.mem_append.1 hp with hp | hp
    · exact h.ok.2.1 p hp
    · simp at hp; subst hp; exact ⟨hi, ht⟩
set_option maxRecDepth 10000 in
set_option maxHeartbeats 2000000 in
theorem rWrite_c (b : Nat) (s : Int) (t : Bytes) (m : Dm) (S : List Nat) (w : World) (h : RefAt w b m S) (hl : m.q.length ≤ 100000) :
    Calls Tryz.prog 84 #[.pointer (some ⟨b, 0, none⟩), .int .i64 s, .string (bs t)] w (RfPost b (Dk.write m s t).1 (.int .i64 (Dk.write m s t).2) S w) := by
  have h0 := h
  obtain ⟨sb, cap, pv, ar, x, y, z, h⟩ := h
  obtain ⟨hb, c0, c1, c2, -, -, -, -, -⟩ := h.cells
  by_cases ho : m.off = true
  · have Hend : Hid (RfPost b (Dk.write m s t).1 (.int .i64 (Dk.write m s t).2) S w (.returned (.int .i64 26)) w) := by simp [Hid, RfPost, Dk.write, ho]; exact h0.in
    simp only [ho, Bool.not_true] at c2
    clear h h0 ho
    go_enter Tryz.func84, Tryz.ntmps84
    go_wp2
    go_ret
    exact Hend.out
  have ho' : m.off = false := by simpa using ho
  simp only [ho', Bool.not_false] at c2
  have Hbad : Hid (¬ (valid m s && t.length == 64) = true → RfPost b (Dk.write m s t).1 (.int .i64 (Dk.write m s t).2) S w (.returned (.int .i64 1)) w) := fun hv => by
    simp only [RfPost, Dk.write, ho', Bool.false_eq_true, if_false, if_neg hv]
    exact ⟨trivial, h0.in⟩
  by_cases hs0 : s < 0
  · have Hend := Lib.hid (Hbad.out (by simp [valid]; omega))
    clear h h0 ho ho' Hbad
    go_enter Tryz.func84, Tryz.ntmps84
    go_wp2
    go_ret
    exact Hend.out
  by_cases hs1 : (m.st.length : Int) ≤ s
  · have Hend := Lib.hid (Hbad.out (by simp [valid]; omega))
    clear h h0 ho ho' Hbad
    go_enter Tryz.func84, Tryz.ntmps84
    go_wp2
    go_ret
    exact Hend.out
  by_cases ht : t.length = 64
  · obtain ⟨i, rfl⟩ : ∃ i : Nat, s = i := ⟨s.toNat, by omega⟩
    have hi : i < m.st.length := by omega
    have he : Dk.write m i t = Dk.count { m with q := m.q ++ [(i, t)] } := by
      have hv : valid m i = true := by simp only [valid, Bool.and_eq_true, decide_eq_true_eq]; omega
      simp [Dk.write, ho', hv, ht]
    rw [he]
    have ht' : ((t.length : Int) != 64) = false := by rw [ht]; rfl
    have Hrow : Hid (∀ W, Below w.heap.size w W → W.ownsRow 0 92 2 pv m.q.length (m.q.flatMap rcells)) := fun W hW => (h.below hW).row
    have Hpush : Hid (∀ W w2 v', Below w.heap.size w W → w2.ownsRow 0 92 2 v' (m.q.length + 1) (m.q.flatMap rcells ++ rcells (i, t)) → W.grownBy w2 pv.ownBlock → (v'.ownBlock = pv.ownBlock ∨ v'.ownBlock = some W.heap.size) → _) :=
      fun W w2 v' hb h1 h2 h3 => rpush_end h hb h1 h2 h3 hi ht
    clear h h0 ho ho' Hbad ht he
    go_enter Tryz.func84, Tryz.ntmps84
    go_wp2_with (refine wpList_plain rfl fun K hK => wp_append (.tmp 34) (.tmp 38) 77 (by rfl) 92 _ 2 24 Tryz.underlying77 info_rpend (by rfl) (by omega) pv m.q.length (m.q.flatMap rcells) (by rfl) (Hrow.out _ (by repeat (first | exact Below.refl _ _ | (refine Below.drew ?_) | (refine Below.alloc ?_ (by (try simp only [World.size_alloc, World.size_setCell, World.size_drew] at *); omega) _) | (refine Below.setCell ?_ (by (try simp only [World.size_alloc, World.size_setCell, World.size_drew] at *); omega) _)))) w.heap.size 1 1 (rcells (i, t)) (by rfl) (by rfl) 92 (by exact new_heap w _ _ rfl) (by simp [rcells, Value.oneCell']) (by omega) (by omega) ?_; intro v' w2 hrow hgrow hblk; obtain ⟨g', cap', rfl⟩ := row_form hrow; obtain ⟨hp, hb2, f1, e1⟩ := Hpush.out _ w2 _ (by repeat (first | exact Below.refl _ _ | (refine Below.drew ?_) | (refine Below.alloc ?_ (by (try simp only [World.size_alloc, World.size_setCell, World.size_drew] at *); omega) _) | (refine Below.setCell ?_ (by (try simp only [World.size_alloc, World.size_setCell, World.size_drew] at *); omega) _))) hrow hgrow hblk; clear hrow hgrow hblk; have Hp := Lib.hid hp; clear hp c1 c0 c2)
    obtain ⟨S1, hd1, hu1⟩ := Hp.out
    refine (rcount_c b _ S1 _ hd1 (by simp; omega)).mono ?_
    rintro e w3 ⟨rfl, S2, hd2, hu2⟩
    have Hend : Hid (RfPost b (Dk.count { m with q := m.q ++ [(i, t)] }).1 (.int .i64 (Dk.count { m with q := m.q ++ [(i, t)] }).2) S w (.returned (.int .i64 (Dk.count { m with q := m.q ++ [(i, t)] }).2)) w3) := ⟨rfl, S2, hd2, hu1.trans hu2⟩
    clear hd1 hd2 hu1 hu2 Hp e1 f1
    generalize (Dk.count { m with q := m.q ++ [(i, t)] }).2 = r at *
    go_wp2
    go_ret
    exact Hend.out
  · have ht' : ((t.length : Int) != 64) = true := by simp; omega
    have Hend := Lib.hid (Hbad.out (by simp [ht]))
    clear h h0 ho ho' Hbad ht
    go_enter Tryz.func84, Tryz.ntmps84
    go_wp2
    go_ret
    exact Hend.out

theorem look_snoc (m : Dm) (q : List (Nat × Bytes)) (p : Nat × Bytes) (s : Nat) : Dk.look { m with q := q ++ [p] } s = if p.1 = s then p.2 else Dk.look { m with q := q } s := by
  unfold Dk.look
  simp only [List.reverse_append, List.reverse_cons, List.reverse_nil, List.nil_append, List.singleton_append, List.find?_cons]
  by_cases h : p.1 = s
  · simp [h]
  · have h' : (p.1 == s) = false := by simpa using h
    simp [h, h']
set_option maxHeartbeats 2000000 in
theorem rRead_c (b : Nat) (s : Int) (m : Dm) (S : List Nat) (w : World) (h : RefAt w b m S) (hl : m.q.length ≤ 100000) :
    Calls Tryz.prog 54 #[.pointer (some ⟨b, 0, none⟩), .int .i64 s] w fun e w' => e = .returned (.tuple #[.string (bs (Dk.read m s).1), .int .i64 (Dk.read m s).2]) ∧ w' = w := by
  have h0 := h
  obtain ⟨sb, cap, pv, ar, x, y, z, h⟩ := h
  obtain ⟨hb, c0, c1, c2, -, -, -, -, -⟩ := h.cells
  by_cases ho : m.off = true
  · have Hend : Hid (Dk.read m s = ([], 26)) := by simp [Hid, Dk.read, ho]
    simp only [ho, Bool.not_true] at c2
    clear h h0 ho
    go_enter Tryz.func54, Tryz.ntmps54
    go_wp2
    go_ret2
    exact ⟨by rw [Hend.out]; rfl, rfl⟩
  have ho' : m.off = false := by simpa using ho
  simp only [ho', Bool.not_false] at c2
  by_cases hs0 : s < 0
  · have Hend : Hid (Dk.read m s = ([], 1)) := by simp [Hid, Dk.read, ho', valid]; omega
    clear h h0 ho ho'
    go_enter Tryz.func54, Tryz.ntmps54
    go_wp2
    go_ret2
    exact ⟨by rw [Hend.out]; rfl, rfl⟩
  by_cases hs1 : (m.st.length : Int) ≤ s
  · have Hend : Hid (Dk.read m s = ([], 1)) := by simp [Hid, Dk.read, ho', valid]; omega
    clear h h0 ho ho'
    go_enter Tryz.func54, Tryz.ntmps54
    go_wp2
    go_ret2
    exact ⟨by rw [Hend.out]; rfl, rfl⟩
  obtain ⟨i, rfl⟩ : ∃ i : Nat, s = i := ⟨s.toNat, by omega⟩
  have hi : i < m.st.length := by omega
  have Hend : Hid (Dk.read m i = (Dk.look { m with q := m.q.take m.q.length } i, 0)) := by
    have hv : valid m i = true := by simp only [valid, Bool.and_eq_true, decide_eq_true_eq]; omega
    show Dk.read m i = _
    rw [List.take_length]
    unfold Dk.read
    rw [if_neg ho, if_pos hv]
    rfl
  obtain ⟨t, ht⟩ : ∃ t, m.st[i]? = some t := ⟨_, List.getElem?_eq_getElem hi⟩
  obtain ⟨hs, s0, s1⟩ := h.text ht
  have H0 : Hid (t = Dk.look { m with q := m.q.take 0 } i) := by simp [Hid, Dk.look, ht]
  obtain ⟨a, c, rfl, hc, hf⟩ := h.form
  have Hf := Lib.hid hf
  clear h h0 ho ho' hf ht hs0 hs1
  go_enter Tryz.func54, Tryz.ntmps54
  go_wp2_with fail
  go_loopw [6, 7] (fun o k wr => wr = w ∧ ∃ j : Nat, j ≤ m.q.length ∧ k = .int .i64 j ∧ o = .string (bs (Dk.look { m with q := m.q.take j } i))) (fun _ k _ => m.q.length - (intOf k).toNat)
  case atStart => exact ⟨rfl, 0, Nat.zero_le _, rfl, by rw [← H0.out]⟩
  case round =>
    obtain ⟨rfl, j, hj, rfl, rfl⟩ := hrel
    by_cases hlt : j < m.q.length
    · obtain ⟨p, hp⟩ : ∃ p, m.q[j]? = some p := ⟨_, List.getElem?_eq_getElem hlt⟩
      obtain ⟨g, rfl, hg, g0, g1⟩ := Hf.out j p hp
      have Hst : Hid (Dk.look { m with q := m.q.take (j + 1) } i = if p.1 = i then p.2 else Dk.look { m with q := m.q.take j } i) := by
        obtain ⟨hj', he⟩ := List.getElem?_eq_some_iff.1 hp
        show _ = _
        rw [List.take_succ_eq_append_getElem hj', he, look_snoc]
      clear hp
      by_cases he : p.1 = i
      · have he' : ((p.1 : Int) == (i : Int)) = true := by simp [he]
        rw [if_pos he] at Hst
        clear he
        go_wp2_with fail
        go_roundw
        case rel => exact ⟨trivial, j + 1, by omega, by go_num, by rw [Hst.out]⟩
        case measure => simp [intOf]; omega
      · have he' : ((p.1 : Int) == (i : Int)) = false := by simp; omega
        rw [if_neg he] at Hst
        clear he
        go_wp2_with fail
        go_roundw
        case rel => exact ⟨trivial, j + 1, by omega, by go_num, by rw [Hst.out]⟩
        case measure => simp [intOf]; omega
    · obtain rfl : j = m.q.length := by omega
      go_wp2_with fail
      go_ret2
      exact ⟨by rw [Hend.out]; first | rfl | simp [go_sem], rfl⟩
end Go.Proofs.YtjcjpekndeoonaaGreatDoor
namespace Go.Proofs.YtjcjpekndeoonaaGreatDoor
open Go.RowKit Go.Cz Go.Cz.Dk
set_option linter.unusedSimpArgs false
set_option linter.unusedVariables false
attribute [local go_sem] bs_size bs_extract bs_append bs_toList
attribute [local irreducible] cList

set_option maxRecDepth 10000 in
set_option maxHeartbeats 1000000 in
theorem rRot_no (b : Nat) (s a k : Int) (m : Dm) (S : List Nat) (w : World) (h : RefAt w b m S) (hr : rotOk m s a k = false) :
    Calls Tryz.prog 27 #[.pointer (some ⟨b, 0, none⟩), .int .i64 s, .int .i64 a, .int .i64 k] w fun e w' => e = .returned (.tuple #[]) ∧ w' = w := by
  obtain ⟨sb, cap, pv, ar, x, y, z, h⟩ := h
  obtain ⟨hb, c0, -, -, -, -, -, -, -⟩ := h.cells
  clear h
  simp only [rotOk, valid, Bool.and_eq_false_iff, decide_eq_false_iff_not] at hr
  generalize m.st.length = n at *
  by_cases h1 : s < 0
  · clear hr
    go_enter Tryz.func27, Tryz.ntmps27
    go_wp2
    exact bodyPost_ret (results_none rfl _ _ _) rfl ⟨rfl, rfl⟩
  by_cases h2 : (n : Int) ≤ s
  · clear hr
    go_enter Tryz.func27, Tryz.ntmps27
    go_wp2
    exact bodyPost_ret (results_none rfl _ _ _) rfl ⟨rfl, rfl⟩
  by_cases h3 : a < 0
  · clear hr
    go_enter Tryz.func27, Tryz.ntmps27
    go_wp2
    exact bodyPost_ret (results_none rfl _ _ _) rfl ⟨rfl, rfl⟩
  by_cases h4 : 64 ≤ a
  · clear hr
    go_enter Tryz.func27, Tryz.ntmps27
    go_wp2
    exact bodyPost_ret (results_none rfl _ _ _) rfl ⟨rfl, rfl⟩
  by_cases h5 : k < 1
  · clear hr
    go_enter Tryz.func27, Tryz.ntmps27
    go_wp2
    exact bodyPost_ret (results_none rfl _ _ _) rfl ⟨rfl, rfl⟩
  have h6 : 255 < k := by omega
  clear hr
  go_enter Tryz.func27, Tryz.ntmps27
  go_wp2
  exact bodyPost_ret (results_none rfl _ _ _) rfl ⟨rfl, rfl⟩
theorem modify_at {t : Bytes} {a : Nat} {x : UInt8} (hx : t[a]? = some x) (f : UInt8 → UInt8) : t.modify a f = t.take a ++ ([f x] ++ t.drop (a + 1)) := by
  have ha := (List.getElem?_eq_some_iff.1 hx).1
  have he := (List.getElem?_eq_some_iff.1 hx).2
  rw [List.modify_eq_take_cons_drop ha, he]
  rfl
set_option maxRecDepth 5000 in
set_option maxRecDepth 10000 in
set_option maxHeartbeats 1000000 in
theorem rRot_ok (b i a k : Nat) (m : Dm) (S : List Nat) (w : World) (h : RefAt w b m S) (hi : i < m.st.length) (ha : a < 64) (hk0 : 0 < k) (hk : k < 256) :
    Calls Tryz.prog 27 #[.pointer (some ⟨b, 0, none⟩), .int .i64 (i : Int), .int .i64 (a : Int), .int .i64 (k : Int)] w (RfPost b (Dk.rot m i a k) (.tuple #[]) S w) := by
  obtain ⟨sb, cap, pv, ar, x, y, z, h⟩ := h
  obtain ⟨hb, c0, -, -, -, -, -, -, -⟩ := h.cells
  obtain ⟨t, ht⟩ : ∃ t, m.st[i]? = some t := ⟨_, List.getElem?_eq_getElem hi⟩
  have ht64 := h.ok.1 t (List.mem_of_getElem? ht)
  obtain ⟨hs, s0, s1⟩ := h.text ht
  obtain ⟨v, hv⟩ : ∃ v, t[a]? = some v := ⟨_, List.getElem?_eq_getElem (by omega)⟩
  have hrot : Dk.rot m i a k = { m with st := m.st.set i (t.take a ++ ([v ^^^ UInt8.ofNat k] ++ t.drop (a + 1))) } := by
    have hr : rotOk m i a k = true := by simp [rotOk, valid]; omega
    unfold Dk.rot
    rw [if_pos hr]
    simp only [Int.toNat_natCast]
    rw [List.modify_eq_set, ht]
    simp only [Option.map_some, Option.getD_some]
    rw [modify_at hv]
  obtain ⟨u, hu⟩ : ∃ u, u = bs t := ⟨_, rfl⟩
  have hul : u.size = 64 := by rw [hu, bs_size, ht64]
  have kl : a < u.size := by omega
  have huv : u[a] = v := by
    subst hu
    have := hv
    rw [List.getElem?_eq_getElem (by omega)] at this
    exact Option.some.inj this
  have hx : Hid (bits .xor .u8 (u[a].toNat : Int) (k : Int) = ((v ^^^ UInt8.ofNat k).toNat : Int)) := by rw [huv]; exact bits_xor v k hk
  rw [← hu] at s0
  have hul2 : u.size ≤ 64 := by omega
  have ha1 : a + 1 ≤ u.size := by omega
  have Hu := Lib.hid hu
  have Hul := Lib.hid hul
  have Hend := Lib.hid fun (w1 : World) (hw : Below w.heap.size w w1) => (h.below hw).setText i (t := t.take a ++ ([v ^^^ UInt8.ofNat k] ++ t.drop (a + 1))) (by simp; omega)
  have Hrot := Lib.hid hrot
  clear h ht ht64 hv hrot hu hul huv
  go_enter Tryz.func27, Tryz.ntmps27
  go_wp2_with fail
  obtain ⟨W, hW⟩ : ∃ W : World, W = w.alloc (.cells #[.int .u8 (bits .xor .u8 (u[a].toNat : Int) (k : Int))] 5) := ⟨_, rfl⟩
  rw [← hW]
  have hbW : Below w.heap.size w W := by rw [hW]; repeat (first | exact Below.refl _ _ | (refine Below.drew ?_) | (refine Below.alloc ?_ (by (try simp only [World.size_alloc, World.size_setCell, World.size_drew] at *); omega) _) | (refine Below.setCell ?_ (by (try simp only [World.size_alloc, World.size_setCell, World.size_drew] at *); omega) _))
  have e0 := (hbW.cell (p := ⟨b, 0, none⟩) hb).trans c0
  have e1 := (hbW.cell (p := ⟨sb, i, none⟩) hs).trans s0
  have e2 := (hbW.frozen (p := ⟨sb, i, none⟩) hs).trans s1
  have hbl : b < W.heap.size := Nat.lt_of_lt_of_le hb hbW.size
  have hsl : sb < W.heap.size := Nat.lt_of_lt_of_le hs hbW.size
  have hg : W.drew.heap[w.heap.size]? = some (.cells (bcells [v ^^^ UInt8.ofNat k]).toArray 5 (0, 0)) := by
    rw [drew_heap, hW, new_heap _ _ _ rfl, hx.out]; rfl
  have hcv := run_convert_text (P := Tryz.prog) W.drew 56 5 9 Tryz.underlying56 Tryz.underlying5 Tryz.underlying9 w.heap.size 0 1 1 [v ^^^ UInt8.ofNat k] 5 (0, 0) hg (by simp)
  have hcv1 : ([v ^^^ UInt8.ofNat k].drop 0).take 1 = [v ^^^ UInt8.ofNat k] := rfl
  rw [hcv1] at hcv
  clear hcv1
  have HbW := Lib.hid hbW
  clear hW hbW hg c0 s0 s1 hb hs
  refine wp_region_still_tail 17 (by kernel_rfl) (by kernel_rfl) ?_
  simp only [List.take_succ_cons, List.take_zero, List.drop_succ_cons, List.drop_zero]
  have ha2 : a ≤ u.size := by omega
  have hw1 : IntKind.i64.wrap ((a : Int) + 1) = (a : Int) + 1 := IntWalk.i64_in _ (by omega)
  have hw2 : (0 : Int) ≤ (a : Int) + 1 := by omega
  have hw3 : ((a : Int) + 1).toNat = a + 1 := by omega
  rw [show ({ W with drawn := W.drawn + 1 } : World) = W.drew from rfl]
  have hw4 : (a : Int) + 1 ≤ (u.size : Int) := by omega
  have hn1 : ¬ 9223372036854775807 < a + 1 := by omega
  have hn2 : ¬ 9223372036854775807 < a + 1 + (u.size - (a + 1)) := by omega
  have hn3 : ¬ 9223372036854775807 < u.size := by omega
  have Hstr : Hid (u.extract 0 a ++ bs [v ^^^ UInt8.ofNat k] ++ u.extract (a + 1) u.size = bs (t.take a ++ ([v ^^^ UInt8.ofNat k] ++ t.drop (a + 1)))) := by
    show _ = _
    rw [Hu.out, bs_size, bs_extract, bs_extract, bs_append, bs_append, List.append_assoc, List.take_of_length_le (l := t.drop (a + 1)) (by simp), List.drop_zero, Nat.sub_zero]
  have Hfin : Hid (RfIn b (Dk.rot m i a k) S w ((W.setCell ⟨sb, i, none⟩ (.string (u.extract 0 a ++ bs [v ^^^ UInt8.ofNat k] ++ u.extract (a + 1) u.size))).drew)) := by
    show RfIn _ _ _ _ _
    rw [Hstr.out, Hrot.out]
    obtain ⟨S', h1, h2⟩ := (Hend.out W HbW.out).below (Below.refl _ _).drew
    exact ⟨S', h1, (Upd.ofBelow HbW.out).trans h2⟩
  iterate 17 still_step
  refine wpStill_nil ?_
  clear hcv hw1 hw2 hw3 hw4 hn1 hn2 hn3
  go_wp2_with fail
  go_end0
  exact ⟨rfl, Hfin.out⟩
end Go.Proofs.YtjcjpekndeoonaaGreatDoor
namespace Go.Proofs.YtjcjpekndeoonaaGreatDoor
open Go.RowKit Go.Cz Go.Cz.Dk
set_option linter.unusedSimpArgs false
set_option linter.unusedVariables false
attribute [local go_sem] bs_size bs_extract bs_append bs_toList
attribute [local irreducible] cList

theorem rRot_c (b : Nat) (s a k : Int) (m : Dm) (S : List Nat) (w : World) (h : RefAt w b m S) :
    Calls Tryz.prog 27 #[.pointer (some ⟨b, 0, none⟩), .int .i64 s, .int .i64 a, .int .i64 k] w (RfPost b (Dk.rot m s a k) (.tuple #[]) S w) := by
  by_cases hr : rotOk m s a k = true
  · simp only [rotOk, valid, Bool.and_eq_true, decide_eq_true_eq] at hr
    obtain ⟨i, rfl⟩ : ∃ i : Nat, s = i := ⟨s.toNat, by omega⟩
    obtain ⟨a, rfl⟩ : ∃ i : Nat, a = i := ⟨a.toNat, by omega⟩
    obtain ⟨k, rfl⟩ : ∃ i : Nat, k = i := ⟨k.toNat, by omega⟩
    exact rRot_ok b i a k m S w h (by omega) (by omega) (by omega) (by omega)
  · have hr' : rotOk m s a k = false := by simpa using hr
    have hm : Dk.rot m s a k = m := by simp [Dk.rot, hr']
    rw [hm]
    refine (rRot_no b s a k m S w h hr').mono ?_
    rintro e w' ⟨rfl, rfl⟩
    exact ⟨rfl, h.in⟩

theorem info_rbyte : (Tryz.prog.info? 5).map (fun i => (i.zero, i.size, i.bytes)) = some (some (.int .u8 0), 1, 1) := by kernel_rfl
theorem flatten_take_succ {st : List Bytes} {j : Nat} {t : Bytes} (h : st[j]? = some t) : (st.take (j + 1)).flatten = (st.take j).flatten ++ t := by
  obtain ⟨hj, he⟩ := List.getElem?_eq_some_iff.1 h
  rw [List.take_succ_eq_append_getElem hj, he, List.flatten_append]
  simp
theorem strCells_bs (t : Bytes) : Lib.strCells (bs t) = bcells t := rfl
theorem row_text {w : World} {B g n cap : Nat} {t : Bytes} (h : w.ownsRow B 5 1 (.slice (some ⟨g, 0, none⟩) n cap) n (bcells t)) (hn : t.length = n) :
    (convert 56 9 (.slice (some ⟨g, 0, none⟩) n cap)).run Tryz.prog w = .ok (.string (bs t)) w := by
  have hc : Lib.Bytes w g 0 (bs t) := by
    intro i hi
    have hi' : i < t.length := by simpa [bs_size] using hi
    rw [Nat.zero_add, h.cellAt i (by omega)]
    simp only [bcells, List.getElem?_map, List.getElem?_eq_getElem hi', Option.map_some]
    rfl
  have hr := Lib.run_convert_window (P := Tryz.prog) w 56 5 9 Tryz.underlying56 Tryz.underlying5 Tryz.underlying9 g 0 (bs t) hc 0 n cap (by rw [bs_size]; omega)
  rw [Nat.zero_add] at hr
  rw [hr, bs_extract]
  simp [← hn]
set_option maxRecDepth 10000 in
set_option maxHeartbeats 2000000 in
theorem rRaw_c (b : Nat) (m : Dm) (S : List Nat) (w : World) (h : RefAt w b m S) (hpos : 0 < m.st.length) :
    Calls Tryz.prog 30 #[.pointer (some ⟨b, 0, none⟩)] w fun e w' => e = .returned (.string (bs (Dk.raw m))) ∧ Below w.heap.size w w' := by
  obtain ⟨sb, cap, pv, ar, x, y, z, h⟩ := h
  obtain ⟨hb, c0, -, -, -, -, -, -, -⟩ := h.cells
  have hfew := h.few
  have Ht : Hid (∀ (i : Nat) t, m.st[i]? = some t → sb < w.heap.size ∧ w.cell? ⟨sb, i, none⟩ = some (.string (bs t))) := fun i t hi => ⟨(h.text hi).1, (h.text hi).2.1⟩
  have Hlen : Hid (∀ j, j ≤ m.st.length → (m.st.take j).flatten.length = j * 64) := fun j hj => by rw [length_flatten_of fun s hs => h.ok.1 s (List.mem_of_mem_take hs), List.length_take, Nat.min_eq_left hj]
  have H64 : Hid (∀ (i : Nat) t, m.st[i]? = some t → t.length = 64) := fun i t hi => h.ok.1 t (List.mem_of_getElem? hi)
  clear h
  obtain ⟨i0, hi, hz0, hz1, hz2⟩ := info_parts info_rbyte
  go_enter Tryz.func30, Tryz.ntmps30
  go_wp2_with (refine wpList_plain rfl fun K hK => wp_make (.const (.int .i64 0)) (.tmp 12) 56 (by rfl) 5 (.int .u8 0) 1 1 Tryz.underlying56 info_rbyte 0 (m.st.length * 64) (by rfl) (by go_num) (by omega) (by omega) (by omega) ?_)
  have hown0 := World.ownsRow_made (base := w.heap.size) (e := 5) (size := 1) w (madeCells #[.int .u8 0] (m.st.length * 64 * 1)) (m.st.length * 64) (Nat.le_refl _) (by unfold maxLen; omega) (by simp [madeCells])
  rw [Nat.mul_one] at hown0
  have H0 : Hid ((w.alloc (.cells (madeCells #[.int .u8 0] (m.st.length * 64)) 5)).ownsRow w.heap.size 5 1 (.slice (some ⟨w.heap.size, 0, none⟩) 0 (m.st.length * 64)) (0 * 64) (bcells (m.st.take 0).flatten) ∧ Below w.heap.size w (w.alloc (.cells (madeCells #[.int .u8 0] (m.st.length * 64)) 5))) := ⟨by simpa [bcells] using hown0, by repeat (first | exact Below.refl _ _ | (refine Below.drew ?_) | (refine Below.alloc ?_ (by (try simp only [World.size_alloc, World.size_setCell, World.size_drew] at *); omega) _) | (refine Below.setCell ?_ (by (try simp only [World.size_alloc, World.size_setCell, World.size_drew] at *); omega) _))⟩
  clear hown0
  go_loopg [3, 4] m.st.length (fun gk o i wr => ∃ (j : Nat) (v : Value), v = o ∧ gk = m.st.length - j ∧ j ≤ m.st.length ∧ i = .int .i64 j ∧ Hid (wr.ownsRow w.heap.size 5 1 v (j * 64) (bcells (m.st.take j).flatten) ∧ Below w.heap.size w wr))
  case atStart => exact ⟨0, _, rfl, rfl, Nat.zero_le _, rfl, H0⟩
  case round =>
    rename_i J1 K1 hJ1 hK1
    clear H0
    obtain ⟨j, v, rfl, rfl, hj, rfl, hr⟩ := hrel
    have hbw := hr.out.2
    have hb' : b < wr.heap.size := Nat.lt_of_lt_of_le hb hbw.size
    have c0' := (hbw.cell (p := ⟨b, 0, none⟩) hb).trans c0
    by_cases hlt : j < m.st.length
    · obtain ⟨t, ht⟩ : ∃ t, m.st[j]? = some t := ⟨_, List.getElem?_eq_getElem hlt⟩
      obtain ⟨hs0, s0⟩ := Ht.out j t ht
      have hs' : sb < wr.heap.size := Nat.lt_of_lt_of_le hs0 hbw.size
      have s0' := (hbw.cell (p := ⟨sb, j, none⟩) hs0).trans s0
      have h64 := H64.out j t ht
      have ht64 : t.length ≤ 64 := by omega
      have H64t := Lib.hid h64
      have Hap : Hid ((m.st.take (j + 1)).flatten = (m.st.take j).flatten ++ t) := flatten_take_succ ht
      have hsz : w.heap.size ≤ wr.heap.size := hbw.size
      clear hbw ht h64 s0
      go_wp2_with (at_builtin; refine Lib.wpList_append_own_string _ rfl (.tmp 23) (.tmp 30) 56 9 rfl w.heap.size 5 i0 Tryz.underlying56 Tryz.underlying9 hi hz0 hz1 hz2 _ (j * 64) (bcells (m.st.take j).flatten) rfl hr.out.1 (bs t) rfl (by rw [bs_size]; unfold maxLen; omega) (by rw [bs_size]; omega) hsz ?_; intro v' w2 hown2 hgrow2 _)
      have H2 : Hid (w2.ownsRow w.heap.size 5 1 v' ((j + 1) * 64) (bcells (m.st.take (j + 1)).flatten) ∧ Below w.heap.size w w2) := by
        refine ⟨?_, hr.out.2.grown hgrow2 hsz fun k hk => (hr.out.1.lt k hk).1⟩
        rw [bs_size, H64t.out, strCells_bs, show j * 64 + 64 = (j + 1) * 64 by omega] at hown2
        rw [Hap.out]
        simpa [bcells] using hown2
      clear hown2 hgrow2 hr
      go_roundg (m.st.length - (j + 1))
      case measure => omega
      case rel => exact ⟨j + 1, _, rfl, rfl, by omega, by go_num, H2⟩
    · obtain rfl : j = m.st.length := by omega
      clear hJ1 hK1
      have hrow := hr.out.1
      obtain ⟨g, cp, rfl⟩ : ∃ g cp, v = .slice (some ⟨g, 0, none⟩) (m.st.length * 64) cp := by
        rcases hrow.2 with ⟨_, h0⟩ | ⟨g, cp, cur, hv, _⟩
        · omega
        · exact ⟨g, cp, hv⟩
      rw [List.take_length] at hrow
      have hfl : m.st.flatten.length = m.st.length * 64 := by have := Hlen.out m.st.length (Nat.le_refl _); rwa [List.take_length] at this
      have hcv := row_text hrow hfl
      have Hb := Lib.hid hr.out.2
      clear hr hrow hfl
      go_wp2_with fail
      go_ret
      exact ⟨by first | rfl | simp [Dk.raw, go_sem], Hb.out⟩
set_option maxRecDepth 10000 in
set_option maxHeartbeats 1000000 in
theorem rzero_c (n : Nat) (w : World) (hn : n ≤ 100000) : Calls Tryz.prog 53 #[.int .i64 (n : Int)] w fun e w' => e = .returned (.string (bs (List.replicate n 0))) ∧ w' = w := by
  go_enter Tryz.func53, Tryz.ntmps53
  go_wp2_with fail
  go_loopw [3, 4] (fun s i wr => wr = w ∧ ∃ j : Nat, j ≤ n ∧ i = .int .i64 j ∧ s = .string (bs (List.replicate j 0))) (fun _ i _ => n - (intOf i).toNat)
  case atStart => exact ⟨rfl, 0, Nat.zero_le _, rfl, rfl⟩
  case round =>
    obtain ⟨rfl, j, hj, rfl, rfl⟩ := hrel
    by_cases hlt : j < n
    · have h1 : (List.replicate j (0 : UInt8)).length ≤ 100000 := by simp; omega
      have e1 : ({ data := #[0] } : ByteArray) = bs [0] := rfl
      have Hs : Hid (bs (List.replicate j 0) ++ { data := #[0] } = bs (List.replicate (j + 1) 0)) := by
        show _ = _
        rw [e1, bs_append, List.replicate_succ']
      clear e1
      go_wp2_with fail
      go_roundw
      case rel => exact ⟨trivial, j + 1, by omega, by go_num, by rw [Hs.out]⟩
      case measure => simp [intOf]; omega
    · obtain rfl : j = n := by omega
      go_wp2_with fail
      go_ret
      exact ⟨rfl, rfl⟩
end Go.Proofs.YtjcjpekndeoonaaGreatDoor
namespace Go.Proofs.YtjcjpekndeoonaaGreatDoor
open Go.RowKit Go.Cz Go.Cz.Dk
set_option linter.unusedSimpArgs false
set_option linter.unusedVariables false
attribute [local go_sem] bs_size bs_extract bs_append bs_toList
attribute [local irreducible] cList

theorem info_rstr : (Tryz.prog.info? 9).map (fun i => (i.zero, i.size, i.bytes)) = some (some (.string ⟨#[]⟩), 1, 16) := by kernel_rfl
set_option maxRecDepth 10000 in
set_option maxHeartbeats 1000000 in
theorem rNew_bad (n : Int) (w : World) (hn : n < 1 ∨ 4000 < n) :
    Calls Tryz.prog 16 #[.int .i64 n] w fun e w' => e = .returned (.pointer none) ∧ w' = w := by
  rcases hn with hn | hn
  · go_enter Tryz.func16, Tryz.ntmps16
    go_wp2
    go_ret
    exact ⟨rfl, rfl⟩
  · have h1 : ¬ n < 1 := by omega
    go_enter Tryz.func16, Tryz.ntmps16
    go_wp2
    go_ret
    exact ⟨rfl, rfl⟩
/-- A reference disk that is being made: j sectors are there. -/
structure RfMade (w wr : World) (Z : Bytes) (j : Nat) (v : Value) : Prop where
  main : wr.heap[w.heap.size]? = some (.cells #[v, .slice none 0 0, .bool true, .bool false, .int .i64 0, .int .i64 0, .int .i64 0] 79 (0, 0))
  row : wr.ownsRow 0 9 1 v j (tcells (List.replicate j Z))
  new : ∀ k, v.ownBlock = some k → w.heap.size < k
  below : Below w.heap.size w wr
theorem RfMade.step {w wr w1 w2 : World} {Z : Bytes} {j : Nat} {v v' : Value} (h : RfMade w wr Z j v) (hb : Below wr.heap.size wr w1) (hrow : w2.ownsRow 0 9 1 v' (j + 1) (tcells (List.replicate j Z) ++ [.string (bs Z)]))
    (hgrow : w1.grownBy w2 v.ownBlock) (hblk : v'.ownBlock = v.ownBlock ∨ v'.ownBlock = some w1.heap.size) :
    RfMade w (w2.setCell ⟨w.heap.size, 0, none⟩ v') Z (j + 1) v' ∧ w.heap.size < w2.heap.size ∧ w2.frozen? ⟨w.heap.size, 0, none⟩ = false ∧ w2.cell? ⟨w.heap.size, 0, none⟩ = some v := by
  have hlt := lt_of_block h.main
  have hne : some w.heap.size ≠ v.ownBlock := fun e => by have := h.new _ e.symm; omega
  have hmain := ((hgrow.block _ (Nat.lt_of_lt_of_le hlt hb.size) hne).trans (hb.block _ hlt)).trans h.main
  have hnew : ∀ k, v'.ownBlock = some k → w.heap.size < k := fun k hk => by
    rcases hblk with e | e
    · exact h.new k (by rw [← e]; exact hk)
    · rw [e] at hk; cases hk; exact Nat.lt_of_lt_of_le hlt hb.size
  refine ⟨⟨?_, ?_, hnew, ?_⟩, lt_of_block hmain, free_of_heap hmain, by rw [cell_of_heap hmain]; simp⟩
  · rw [setCell_heap hmain]; simp
  · have := ownsRow_setCell_other (a := ⟨w.heap.size, 0, none⟩) hrow (fun e => by have := hnew _ e; simp at this) v'
    simpa [tcells, List.replicate_succ'] using this
  · have h1 : Below w.heap.size w w2 := (h.below.trans (hb.mono h.below.size)).grown hgrow (Nat.le_trans h.below.size hb.size) fun k hk => Nat.le_of_lt (h.new k hk)
    exact h1.setCell (Nat.le_refl _) _
/-- What 'New' leaves: a new disk in new blocks. -/
def RfNew (n : Nat) (w : World) (e : Ending) (w' : World) : Prop := ∃ b S, e = .returned (.pointer (some ⟨b, 0, none⟩)) ∧ RefAt w' b (Dk.fresh n) S ∧ Below w.heap.size w w' ∧ ∀ k ∈ S, w.heap.size ≤ k
theorem RfMade.done {w wr : World} {n : Nat} {v : Value} (h : RfMade w wr (List.replicate 64 0) n v) (h0 : 0 < n) (h1 : n ≤ 4000) : RfNew n w (.returned (.pointer (some ⟨w.heap.size, 0, none⟩))) wr := by
  obtain ⟨hm, hr, hn, hb⟩ := h
  obtain ⟨g, cap, rfl⟩ : ∃ g cap, v = .slice (some ⟨g, 0, none⟩) n cap := by
    rcases hr.2 with ⟨_, h0⟩ | ⟨g, cp, cur, hv, _⟩
    · omega
    · exact ⟨g, cp, hv⟩
  have hg := hn g rfl
  have hl : (Dk.fresh n).st.length = n := by simp [Dk.fresh]
  refine ⟨_, [w.heap.size, g], rfl, ⟨g, cap, .slice none 0 0, false, 0, 0, 0, by rw [hl]; exact hm, by rw [hl]; exact hr, World.ownsRow_nil _ _ _ _, .inl ⟨rfl, rfl⟩, rfl, by simp; omega, ok_fresh n, by rw [hl]; exact h1⟩, hb, ?_⟩
  intro k hk
  simp at hk
  omega
set_option maxRecDepth 10000 in
set_option maxHeartbeats 1000000 in
theorem rNew_c (n : Nat) (w : World) (h0 : 0 < n) (h1 : n ≤ 4000) : Calls Tryz.prog 16 #[.int .i64 (n : Int)] w (RfNew n w) := by
  obtain ⟨Z, hZ⟩ : ∃ Z : Bytes, Z = List.replicate 64 0 := ⟨_, rfl⟩
  have Hz : Hid (∀ w, Calls Tryz.prog 53 #[.int .i64 64] w fun e w' => e = .returned (.string (bs Z)) ∧ w' = w) := fun w => by rw [hZ]; exact rzero_c 64 w (by omega)
  have HZ := Lib.hid hZ
  clear hZ
  have k1 : ¬ n < 1 := by omega
  have k2 : ¬ 4000 < n := by omega
  go_enter Tryz.func16, Tryz.ntmps16
  go_wp2_with fail
  go_at_call 53
  refine (Hz.out _).mono ?_
  rintro e w1 ⟨rfl, rfl⟩
  go_wp2_with fail
  have H0 : Hid (∃ v, RfMade w (w.alloc (.cells #[.slice none 0 0, .slice none 0 0, .bool true, .bool false, .int .i64 0, .int .i64 0, .int .i64 0] 79)) Z 0 v) :=
    ⟨.slice none 0 0, new_heap _ _ _ rfl, World.ownsRow_nil _ _ _ _, fun k hk => (by cases hk), by repeat (first | exact Below.refl _ _ | (refine Below.drew ?_) | (refine Below.alloc ?_ (by (try simp only [World.size_alloc, World.size_setCell, World.size_drew] at *); omega) _) | (refine Below.setCell ?_ (by (try simp only [World.size_alloc, World.size_setCell, World.size_drew] at *); omega) _))⟩
  go_loopg [5] n (fun gk i wr => ∃ j : Nat, gk = n - j ∧ j ≤ n ∧ i = .int .i64 j ∧ Hid (∃ v, RfMade w wr Z j v))
  case atStart => exact ⟨0, rfl, Nat.zero_le _, rfl, H0⟩
  case round =>
    rename_i J1 K1 hJ1 hK1
    clear H0
    obtain ⟨j, rfl, hj, rfl, hr⟩ := hrel
    by_cases hlt : j < n
    · obtain ⟨v, hm⟩ := hr.out
      have Hm := Lib.hid hm
      have hb := lt_of_block hm.main
      have c0 : wr.cell? ⟨w.heap.size, 0, none⟩ = some v := by rw [cell_of_heap hm.main]; simp
      clear hm hr
      go_wp2_with (refine wpList_plain rfl fun K hK => wp_append (.tmp 24) (.tmp 26) 26 (by rfl) 9 _ 1 16 Tryz.underlying26 info_rstr (by rfl) (by omega) v j (tcells (List.replicate j Z)) (by rfl) (Hm.out.row.alloc _) wr.heap.size 1 1 [.string (bs Z)] (by rfl) (by rfl) 9 (by exact new_heap wr _ _ rfl) (by simp [Value.oneCell']) (by omega) (by omega) ?_; intro v' w2 hrow hgrow hblk; obtain ⟨g', cap', rfl⟩ := row_form hrow; obtain ⟨hp, hb2, f0, e0⟩ := Hm.out.step (by repeat (first | exact Below.refl _ _ | (refine Below.drew ?_) | (refine Below.alloc ?_ (by (try simp only [World.size_alloc, World.size_setCell, World.size_drew] at *); omega) _) | (refine Below.setCell ?_ (by (try simp only [World.size_alloc, World.size_setCell, World.size_drew] at *); omega) _))) hrow hgrow hblk; have Hp := Lib.hid hp; clear hp hrow hgrow hblk c0)
      go_roundg (n - (j + 1))
      case measure => omega
      case rel => exact ⟨j + 1, rfl, by omega, by go_num, _, Hp.out⟩
    · obtain rfl : j = n := by omega
      clear hJ1 hK1
      obtain ⟨v, hm⟩ := hr.out
      rw [HZ.out] at hm
      have Hend := Lib.hid (hm.done h0 h1)
      clear hm hr
      go_wp2_with fail
      go_ret
      exact Hend.out
theorem RefAt.lt' {w : World} {b : Nat} {m : Dm} {S : List Nat} (h : RefAt w b m S) : ∀ k ∈ S, k < w.heap.size := by
  obtain ⟨sb, cap, pv, ar, x, y, z, h⟩ := h
  exact h.lt
theorem RefAt.mod' {w w' : World} {b : Nat} {m : Dm} {S S0 : List Nat} (h : RefAt w b m S) (hm : Mod S0 w w') (hd : ∀ k ∈ S, k ∉ S0) : RefAt w' b m S := by
  obtain ⟨sb, cap, pv, ar, x, y, z, h⟩ := h
  exact ⟨sb, cap, pv, ar, x, y, z, h.mod hm hd⟩
def rdisk (b : Nat) (m : Dm) : Piece where
  lies w S := RefAt w b m S
  lt h := h.lt'
  keep h hm hd := h.mod' hm hd
section
variable {w0 w : World} {ps : List Piece} {b : Nat} {m : Dm}
theorem Owns.rk {m' : Dm} {v : Value} {f : FuncId} {args : Array Value} (h : Owns w0 w (rdisk b m :: ps)) (hc : ∀ S, RefAt w b m S → Calls Tryz.prog f args w (RfPost b m' v S w)) :
    Calls Tryz.prog f args w (Back w0 v (rdisk b m' :: ps)) := by
  obtain ⟨S, h1, _, hf⟩ := h.open
  refine (hc S h1).mono ?_
  rintro e w' ⟨rfl, S', hd', hu⟩
  exact ⟨rfl, hf _ _ S' hd' hu.1 hu.2⟩
theorem Owns.rnew (n : Nat) (h : Owns w0 w ps) (h0 : 0 < n) (h1 : n ≤ 4000) : Calls Tryz.prog 16 #[.int .i64 (n : Int)] w fun e w' => ∃ b, e = .returned (.pointer (some ⟨b, 0, none⟩)) ∧ Owns w0 w' (rdisk b (Dk.fresh n) :: ps) := by
  refine (rNew_c n w h0 h1).mono ?_
  rintro e w' ⟨b, S, rfl, hd, hb1, hS⟩
  exact ⟨b, rfl, h.push (Q := rdisk b (Dk.fresh n)) hd hb1 hS⟩
theorem Owns.rread (s : Int) (h : Owns w0 w (rdisk b m :: ps)) (hq : m.q.length ≤ 1000) : Calls Tryz.prog 54 #[.pointer (some ⟨b, 0, none⟩), .int .i64 s] w fun e w' => e = .returned (.tuple #[.string (bs (Dk.read m s).1), .int .i64 (Dk.read m s).2]) ∧ w' = w := by
  obtain ⟨S, hd, _⟩ := h.first
  exact rRead_c b s m S w hd (by omega)
end
end Go.Proofs.YtjcjpekndeoonaaGreatDoor
