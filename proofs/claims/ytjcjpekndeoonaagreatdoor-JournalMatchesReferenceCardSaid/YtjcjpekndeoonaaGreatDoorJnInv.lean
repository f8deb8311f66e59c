/-
  The journal on a disk that is on: what 'Append' leaves, 'Open' finds.
-/
import Derived.Test.YtjcjpekndeoonaaGreatDoorJnPlain
namespace Go.Cz.Jn
set_option linter.unusedSimpArgs false
set_option linter.unusedVariables false
open Go.Cz.Dk (Dm)
/-- A disk that is on, with nothing pending. -/
structure Calm (m : Dm) : Prop where
  off : m.off = false
  al : m.al = none
  q : m.q = []
  len : ∀ s ∈ m.st, s.length = 64
def pend : Nat → List Bytes → List (Nat × Bytes)
  | _, [] => []
  | p, s :: r => (p, s) :: pend (p + 1) r
def over : List Bytes → Nat → List Bytes → List Bytes
  | st, _, [] => st
  | st, p, s :: r => over (st.set p s) (p + 1) r
theorem setS_set {st : List Bytes} {p : Nat} {s : Bytes} (h : ∀ x ∈ st, x.length = 64) (hs : s.length = 64) : Dk.setS st p s = st.set p s := by
  unfold Dk.setS
  refine List.ext_getElem? fun i => ?_
  rw [List.getElem?_modify, List.getElem?_set]
  by_cases hi : p = i
  · subst hi
    rw [if_pos rfl]
    by_cases hl : p < st.length
    · rw [if_pos hl, List.getElem?_eq_getElem hl]
      have := h _ (List.getElem_mem hl)
      simp [List.drop_of_length_le (show st[p].length ≤ s.length by omega)]
    · rw [if_neg hl, List.getElem?_eq_none (by omega)]; rfl
  · rw [if_neg hi]; simp [hi]
theorem set_all {st : List Bytes} {p : Nat} {s : Bytes} (h : ∀ x ∈ st, x.length = 64) (hs : s.length = 64) : ∀ x ∈ st.set p s, x.length = 64 := fun x hx => by
  rcases List.mem_or_eq_of_mem_set hx with h1 | h1
  · exact h x h1
  · rw [h1]; exact hs
theorem settle_over : ∀ (ss : List Bytes) (st : List Bytes) (p : Nat), (∀ x ∈ st, x.length = 64) → (∀ x ∈ ss, x.length = 64) → Dk.settle st (pend p ss) = over st p ss
  | [], _, _, _, _ => rfl
  | s :: r, st, p, h, hs => by
    show Dk.settle (Dk.setS st p s) (pend (p + 1) r) = over (st.set p s) (p + 1) r
    rw [setS_set h (hs s (by simp))]
    exact settle_over r _ _ (set_all h (hs s (by simp))) fun x hx => hs x (by simp [hx])
theorem over_len : ∀ (ss : List Bytes) (st : List Bytes) (p : Nat), (over st p ss).length = st.length
  | [], _, _ => rfl
  | s :: r, st, p => by show (over (st.set p s) (p + 1) r).length = _; rw [over_len r, List.length_set]
theorem over_all : ∀ (ss : List Bytes) (st : List Bytes) (p : Nat), (∀ x ∈ st, x.length = 64) → (∀ x ∈ ss, x.length = 64) → ∀ x ∈ over st p ss, x.length = 64
  | [], _, _, h, _ => h
  | s :: r, st, p, h, hs => over_all r _ _ (set_all h (hs s (by simp))) fun x hx => hs x (by simp [hx])
theorem over_get : ∀ (ss : List Bytes) (st : List Bytes) (p i : Nat), p + ss.length ≤ st.length → (over st p ss)[i]? = if p ≤ i ∧ i < p + ss.length then ss[i - p]? else st[i]?
  | [], st, p, i, _ => by rw [if_neg (by simp only [List.length_nil]; omega)]; rfl
  | s :: r, st, p, i, h => by
    show (over (st.set p s) (p + 1) r)[i]? = _
    rw [over_get r (st.set p s) (p + 1) i (by rw [List.length_set]; simp at h; omega), List.length_cons]
    by_cases h1 : p + 1 ≤ i ∧ i < p + 1 + r.length
    · rw [if_pos h1, if_pos (by omega), show i - p = (i - (p + 1)) + 1 by omega, List.getElem?_cons_succ]
    · rw [if_neg h1, List.getElem?_set]
      by_cases hi : p = i
      · subst hi
        simp at h
        rw [if_pos rfl, if_pos (by omega), if_pos (by omega)]
        simp
      · rw [if_neg hi, if_neg (by omega)]
theorem writes_on : ∀ (ss : List Bytes) (m : Dm) (p : Nat), m.off = false → m.al = none → p + ss.length ≤ m.st.length → (∀ x ∈ ss, x.length = 64) →
    writesB m p ss = ({ m with st := Dk.settle m.st (m.q ++ pend p ss), q := [] }, 0)
  | [], m, p, ho, ha, _, _ => by
    show Dk.sync m = _
    unfold Dk.sync Dk.count
    rw [ho, ha]
    simp [pend, ho, ha]
  | s :: r, m, p, ho, ha, hp, hs => by
    have hw : Dk.write m (p : Int) s = ({ m with q := m.q ++ [(p, s)] }, 0) := by
      have hl := hs s (by simp)
      simp at hp
      unfold Dk.write Dk.valid Dk.count
      rw [ho, ha, hl, decide_eq_true (by omega : (0 : Int) ≤ (p : Int)), decide_eq_true (by omega : (p : Int) < (m.st.length : Int))]
      simp
    show (if (Dk.write m (p : Int) s).2 != 0 then _ else writesB (Dk.write m (p : Int) s).1 (p + 1) r) = _
    rw [hw]
    simp only [bne_self_eq_false, Bool.false_eq_true, if_false]
    simp at hp
    rw [writes_on r { m with q := m.q ++ [(p, s)] } (p + 1) ho ha (by dsimp only; omega) fun x hx => hs x (by simp [hx])]
    simp [pend]
theorem writes_calm {m : Dm} (h : Calm m) {p : Nat} {ss : List Bytes} (hp : p + ss.length ≤ m.st.length) (hs : ∀ x ∈ ss, x.length = 64) : writesB m p ss = ({ m with st := over m.st p ss }, 0) := by
  rw [writes_on ss m p h.off h.al hp hs, h.q, List.nil_append, settle_over ss m.st p h.len hs]
theorem Calm.over {m : Dm} (h : Calm m) {p : Nat} {ss : List Bytes} (hs : ∀ x ∈ ss, x.length = 64) : Calm { m with st := over m.st p ss } := ⟨h.off, h.al, h.q, over_all _ _ _ h.len hs⟩
theorem look_calm {m : Dm} (h : m.q = []) (i : Nat) : Dk.look m i = m.st.getD i [] := Dk.look_none fun j x hx => by rw [h] at hx; simp at hx
theorem zeroB_len : zeroB.length = 64 := by simp [zeroB]
/-- The journal and its disk. -/
structure Inv (m : Dm) (j : Jm) : Prop where
  calm : Calm m
  sec : m.st.length = j.sectors
  low : 3 ≤ j.sectors
  high : j.sectors ≤ 4000
  ok : j.broken = false
  room : 2 + j.count ≤ j.sectors
  head : ∀ p, p < 2 → ∃ s, m.st[p]? = some s ∧ (s = headB p j.count ∨ (j.count = 0 ∧ s = zeroB))
  pieces : ∃ ps : List Bytes, ps.length = j.count ∧ (∀ (i : Nat) (p : Bytes), ps[i]? = some p → m.st[2 + i]? = some (sectorB (2 + i) p) ∧ 1 ≤ p.length ∧ p.length ≤ 46) ∧ ps.flatten = textB j.recs
  recs : ∀ r ∈ j.recs, r.length ≤ 20000
theorem getD_of {st : List Bytes} {i : Nat} {s : Bytes} (h : st[i]? = some s) : st.getD i [] = s := by rw [List.getD_eq_getElem?_getD, h]; rfl
theorem Inv.counts {m : Dm} {j : Jm} (h : Inv m j) : max (countB 0 (Dk.look m 0) (m.st.length - 2)) (countB 1 (Dk.look m 1) (m.st.length - 2)) = j.count := by
  have e : ∀ p, p < 2 → countB p (Dk.look m p) (m.st.length - 2) = j.count := fun p hp => by
    obtain ⟨s, hs, h1⟩ := h.head p hp
    have h2 := h.room
    have h3 := h.sec
    have h4 := h.high
    rw [look_calm h.calm.q, getD_of hs]
    rcases h1 with rfl | ⟨h1, rfl⟩
    · exact countB_head (by omega) (by omega)
    · rw [countB_zero, h1]; rfl
  rw [e 0 (by omega), e 1 (by omega)]
  omega
theorem foldr_some : ∀ (xs : List (Option Bytes)) (ys : List Bytes), xs = ys.map some → xs.foldr (fun x a => match x, a with | some x, some a => some (x :: a) | _, _ => none) (some []) = some ys
  | [], [], _ => rfl
  | [], y :: ys, h => by simp at h
  | x :: xs, [], h => by simp at h
  | x :: xs, y :: ys, h => by
    simp at h
    obtain ⟨rfl, h⟩ := h
    rw [List.foldr_cons, foldr_some xs ys h]
theorem Inv.find {m : Dm} {j : Jm} (h : Inv m j) : findB m = .ok (j.count, j.recs) := by
  obtain ⟨ps, h1, h2, h3⟩ := h.pieces
  have hp : piecesOf m j.count = some ps := by
    refine foldr_some _ _ (List.ext_getElem? fun i => ?_)
    rw [List.getElem?_map, List.getElem?_map]
    by_cases hi : i < j.count
    · rw [List.getElem?_range hi]
      have hi2 : i < ps.length := by omega
      obtain ⟨e1, e2, e3⟩ := h2 i _ (List.getElem?_eq_getElem hi2)
      rw [List.getElem?_eq_getElem hi2]
      show some (pieceB (2 + i) (Dk.look m (2 + i))) = _
      rw [look_calm h.calm.q, getD_of e1, pieceB_sector e2 e3]
      rfl
    · rw [List.getElem?_eq_none (by simpa using hi), List.getElem?_eq_none (by omega)]; rfl
  have h4 := h.low
  have h5 := h.sec
  unfold findB
  rw [h.calm.off, h.counts, Int.toNat_natCast, hp]
  simp only [Bool.false_eq_true, if_false]
  rw [if_neg (by omega), if_neg (by omega), h3, parse_text _ h.recs]
theorem Inv.fix {m : Dm} {j : Jm} (h : Inv m j) {p : Nat} (hp : p < 2) : fixB m p (Dk.look m p) j.count = (m, 0) := by
  obtain ⟨s, hs, h1⟩ := h.head p hp
  unfold fixB
  rw [look_calm h.calm.q, getD_of hs, if_pos h1]
/-- 'Open' finds what is there, and leaves the disk as it was. -/
theorem Inv.open {m : Dm} {j : Jm} (h : Inv m j) : openB m = (m, 0, j) := by
  unfold openB
  rw [h.find]
  dsimp only
  rw [h.fix (p := 0) (by omega)]
  dsimp only
  rw [h.fix (p := 1) (by omega)]
  have h1 := h.sec
  have h2 := h.ok
  obtain ⟨a, b, c, d⟩ := j
  dsimp only at h1 h2
  simp [h1, h2]
theorem text_pos {rs : List Bytes} (h : rs ≠ []) : textB rs ≠ [] := by
  rcases rs with _ | ⟨r, rs⟩
  · exact absurd rfl h
  · simp [textB]
theorem pieces_pos {l : Bytes} (h : l ≠ []) : 1 ≤ (piecesB l).length := by
  have := piecesB_flat l
  rcases hp : piecesB l with _ | ⟨p, ps⟩
  · rw [hp] at this; exact absurd this.symm h
  · simp
def added (j : Jm) (rs : List Bytes) : Jm := { j with count := j.count + (piecesB (textB rs)).length, recs := j.recs ++ rs }
/-- The sectors behind an 'Append'. -/
def laid (st : List Bytes) (c : Nat) (ps : List Bytes) : List Bytes :=
  over (over (over (over st (2 + c) (ps.map fun _ => zeroB)) (2 + c) ((List.range ps.length).map fun i => sectorB (2 + c + i) (ps.getD i []))) 1 [headB 1 (c + ps.length)]) 0 [headB 0 (c + ps.length)]
theorem steps_calm {m : Dm} (h : Calm m) {c : Nat} {ps : List Bytes} (hr : 2 + c + ps.length ≤ m.st.length) : stepsB m c ps = ({ m with st := laid m.st c ps }, 0) := by
  have z : ∀ x ∈ ps.map fun _ => zeroB, x.length = 64 := fun x hx => by obtain ⟨_, _, rfl⟩ := List.mem_map.1 hx; exact zeroB_len
  have s : ∀ x ∈ (List.range ps.length).map fun i => sectorB (2 + c + i) (ps.getD i []), x.length = 64 := fun x hx => by obtain ⟨_, _, rfl⟩ := List.mem_map.1 hx; exact sectorB_len _ _
  have k : ∀ q, ∀ x ∈ [headB q (c + ps.length)], x.length = 64 := fun q x hx => by simp at hx; subst hx; exact headB_len _ _
  unfold stepsB
  dsimp only
  rw [writes_calm h (by rw [List.length_map]; exact hr) z]
  dsimp only
  rw [writes_calm (h.over z) (by dsimp only; rw [over_len, List.length_map, List.length_range]; exact hr) s]
  dsimp only
  rw [writes_calm ((h.over z).over s) (by dsimp only; rw [over_len, over_len]; simp; omega) (k 1)]
  dsimp only
  rw [writes_calm (((h.over z).over s).over (k 1)) (by dsimp only; rw [over_len, over_len, over_len]; simp; omega) (k 0)]
  simp [laid]
theorem laid_len (st : List Bytes) (c : Nat) (ps : List Bytes) : (laid st c ps).length = st.length := by unfold laid; rw [over_len, over_len, over_len, over_len]
theorem laid_all {st : List Bytes} {c : Nat} {ps : List Bytes} (h : ∀ x ∈ st, x.length = 64) : ∀ x ∈ laid st c ps, x.length = 64 := by
  have z : ∀ x ∈ ps.map fun _ => zeroB, x.length = 64 := fun x hx => by obtain ⟨_, _, rfl⟩ := List.mem_map.1 hx; exact zeroB_len
  have s : ∀ x ∈ (List.range ps.length).map fun i => sectorB (2 + c + i) (ps.getD i []), x.length = 64 := fun x hx => by obtain ⟨_, _, rfl⟩ := List.mem_map.1 hx; exact sectorB_len _ _
  have k : ∀ q, ∀ x ∈ [headB q (c + ps.length)], x.length = 64 := fun q x hx => by simp at hx; subst hx; exact headB_len _ _
  exact over_all _ _ _ (over_all _ _ _ (over_all _ _ _ (over_all _ _ _ h z) s) (k 1)) (k 0)
theorem laid_get {st : List Bytes} {c : Nat} {ps : List Bytes} (hr : 2 + c + ps.length ≤ st.length) (i : Nat) :
    (laid st c ps)[i]? = if i = 0 then some (headB 0 (c + ps.length)) else if i = 1 then some (headB 1 (c + ps.length)) else if 2 + c ≤ i ∧ i < 2 + c + ps.length then some (sectorB i (ps.getD (i - (2 + c)) [])) else st[i]? := by
  unfold laid
  rw [over_get _ _ _ _ (by rw [over_len, over_len, over_len]; simp; omega)]
  simp only [List.length_cons, List.length_nil]
  by_cases h0 : i = 0
  · subst h0; simp
  rw [if_neg (by omega), if_neg h0, over_get _ _ _ _ (by rw [over_len, over_len]; simp; omega)]
  simp only [List.length_cons, List.length_nil]
  by_cases h1 : i = 1
  · subst h1; simp
  rw [if_neg (by omega), if_neg h1, over_get _ _ _ _ (by rw [over_len, List.length_map, List.length_range]; exact hr), List.length_map, List.length_range]
  by_cases h2 : 2 + c ≤ i ∧ i < 2 + c + ps.length
  · rw [if_pos h2, if_pos h2, List.getElem?_map, List.getElem?_range (by omega)]
    simp only [Option.map_some]
    rw [show 2 + c + (i - (2 + c)) = i by omega]
  · rw [if_neg h2, if_neg h2, over_get _ _ _ _ (by rw [List.length_map]; exact hr), List.length_map, if_neg h2]
/-- What 'Append' leaves, if there is room. -/
theorem Inv.append {m : Dm} {j : Jm} (h : Inv m j) {rs : List Bytes} (hl : longB rs = false) (hr : ((piecesB (textB rs)).length : Int) ≤ j.room) (hn : rs ≠ []) :
    appendB m j rs = ({ m with st := laid m.st j.count (piecesB (textB rs)) }, 0, added j rs) ∧ Inv { m with st := laid m.st j.count (piecesB (textB rs)) } (added j rs) := by
  have hroom : 2 + j.count + (piecesB (textB rs)).length ≤ m.st.length := by have := h.sec; have := h.room; unfold Jm.room at hr; omega
  have hst := steps_calm h.calm hroom
  refine ⟨?_, ?_⟩
  · unfold appendB
    rw [h.ok, hl, hst]
    simp only [Bool.false_eq_true, if_false]
    rw [if_neg (by omega), if_neg hn]
    simp [added, h.ok]
  · obtain ⟨ps, h1, h2, h3⟩ := h.pieces
    have hlg := laid_get (st := m.st) (c := j.count) (ps := piecesB (textB rs)) hroom
    refine ⟨⟨h.calm.off, h.calm.al, h.calm.q, laid_all h.calm.len⟩, ?_, h.low, h.high, h.ok, ?_, ?_, ⟨ps ++ piecesB (textB rs), ?_, ?_, ?_⟩, ?_⟩
    · show (laid m.st j.count (piecesB (textB rs))).length = _
      rw [laid_len]; exact h.sec
    · show 2 + (j.count + (piecesB (textB rs)).length) ≤ j.sectors
      have := h.sec; omega
    · intro p hp
      refine ⟨_, ?_, .inl rfl⟩
      show (laid m.st j.count (piecesB (textB rs)))[p]? = some (headB p (j.count + (piecesB (textB rs)).length))
      rw [hlg]
      rcases (by omega : p = 0 ∨ p = 1) with rfl | rfl
      · rfl
      · rfl
    · show _ = j.count + (piecesB (textB rs)).length
      rw [List.length_append, h1]
    · intro i p hi
      show (laid m.st j.count (piecesB (textB rs)))[2 + i]? = _ ∧ _
      rw [hlg, if_neg (by omega), if_neg (by omega)]
      by_cases hic : i < ps.length
      · rw [List.getElem?_append_left hic] at hi
        rw [if_neg (by omega)]
        exact h2 i p hi
      · rw [List.getElem?_append_right (by omega)] at hi
        have hlt := (List.getElem?_eq_some_iff.1 hi).1
        rw [if_pos (by omega), show 2 + i - (2 + j.count) = i - ps.length by omega, getD_of hi]
        exact ⟨rfl, piecesB_mem (List.mem_of_getElem? hi)⟩
    · rw [List.flatten_append, h3, piecesB_flat, ← textB_append]; rfl
    · intro r hr2
      rcases List.mem_append.1 hr2 with hr2 | hr2
      · exact h.recs r hr2
      · have := List.any_eq_false.1 hl r hr2
        simp at this
        omega
theorem inv_fresh {n : Nat} (h1 : 3 ≤ n) (h2 : n ≤ 4000) : Inv (Dk.fresh n) ⟨n, 0, [], false⟩ := by
  refine ⟨⟨rfl, rfl, rfl, (Dk.ok_fresh n).1⟩, by simp [Dk.fresh], h1, h2, rfl, by show 2 + 0 ≤ n; omega, fun p hp => ⟨zeroB, ?_, .inr ⟨rfl, rfl⟩⟩, ⟨[], rfl, by simp, rfl⟩, by simp⟩
  show (List.replicate n (List.replicate 64 0))[p]? = _
  rw [List.getElem?_replicate, if_pos (by omega)]
  rfl
end Go.Cz.Jn
