/-
  A disk that loses power in the midst of 'Append' or 'Open': plain laws.
-/
import Derived.Test.YtjcjpekndeoonaaGreatDoorJnFor
namespace Go.Cz.Jn
set_option linter.unusedSimpArgs false
set_option linter.unusedVariables false
open Go.Cz.Dk (Dm)
/-- A disk that is on, with nothing pending; it may be armed. -/
structure Ready (m : Dm) : Prop where
  off : m.off = false
  q : m.q = []
  len : ∀ s ∈ m.st, s.length = 64
def Mix (st : List Bytes) (q : List (Nat × Bytes)) (st' : List Bytes) : Prop :=
  st'.length = st.length ∧ ∀ i : Nat, st'[i]? = st[i]? ∨ ∃ s old b, (i, s) ∈ q ∧ st[i]? = some old ∧ st'[i]? = some (s.take b ++ old.drop b)
def tornL (st : List Bytes) (q : List (Nat × Bytes)) (n b : Nat) : List Bytes := match q[n]? with | some p => Dk.setS (Dk.settle st (q.take n)) p.1 (p.2.take b) | none => Dk.settle st (q.take n)
theorem setS_get (st : List Bytes) (p : Nat) (t : Bytes) (i : Nat) : (Dk.setS st p t)[i]? = if p = i then st[i]?.map (fun s => t ++ s.drop t.length) else st[i]? := by
  unfold Dk.setS
  rw [List.getElem?_modify]
  by_cases hi : p = i
  · simp [hi]
  · simp [hi]
theorem mix_torn : ∀ (q : List (Nat × Bytes)) (st : List Bytes) (n b : Nat), (∀ s ∈ st, s.length = 64) → (∀ x ∈ q, x.2.length = 64) → (q.map Prod.fst).Nodup → Mix st q (tornL st q n b)
  | [], st, n, b, _, _, _ => ⟨by simp [tornL, Dk.settle], fun i => .inl (by simp [tornL, Dk.settle])⟩
  | x :: q, st, 0, b, h, hq, hd => by
    have hx := hq x (by simp)
    have e : tornL st (x :: q) 0 b = Dk.setS st x.1 (x.2.take b) := rfl
    rw [e]
    refine ⟨Dk.length_setS _ _ _, fun i => ?_⟩
    rw [setS_get]
    by_cases hi : x.1 = i
    · rw [if_pos hi]
      cases ho : st[i]? with
      | none => exact .inl rfl
      | some old =>
        refine .inr ⟨x.2, old, (x.2.take b).length, by simp [← hi], rfl, ?_⟩
        have et : x.2.take (x.2.take b).length = x.2.take b := by
          rw [List.length_take]
          by_cases hb : b ≤ x.2.length
          · rw [Nat.min_eq_left hb]
          · rw [Nat.min_eq_right (by omega), List.take_length, List.take_of_length_le (by omega)]
        rw [et]
        rfl
    · rw [if_neg hi]
      exact .inl rfl
  | x :: q, st, n + 1, b, h, hq, hd => by
    have hx := hq x (by simp)
    rw [List.map_cons, List.nodup_cons] at hd
    have e : tornL st (x :: q) (n + 1) b = tornL (st.set x.1 x.2) q n b := by rw [← setS_set h hx]; rfl
    rw [e]
    obtain ⟨h1, h2⟩ := mix_torn q (st.set x.1 x.2) n b (set_all h hx) (fun y hy => hq y (by simp [hy])) hd.2
    refine ⟨by rw [h1, List.length_set], fun i => ?_⟩
    by_cases hi : x.1 = i
    · subst hi
      have h3 : (tornL (st.set x.1 x.2) q n b)[x.1]? = (st.set x.1 x.2)[x.1]? := by
        rcases h2 x.1 with h2 | ⟨s, old, b', hm, -⟩
        · exact h2
        · exact absurd (List.mem_map.2 ⟨_, hm, rfl⟩) hd.1
      rw [h3, List.getElem?_set]
      by_cases hl : x.1 < st.length
      · right
        refine ⟨x.2, st[x.1], 64, by simp, List.getElem?_eq_getElem hl, ?_⟩
        rw [if_pos rfl, if_pos hl, List.take_of_length_le (by omega), List.drop_of_length_le (by rw [h _ (List.getElem_mem hl)]; exact Nat.le_refl _), List.append_nil]
      · left
        rw [if_pos rfl, if_neg hl, List.getElem?_eq_none (by omega)]
    · have h3 : (st.set x.1 x.2)[i]? = st[i]? := List.getElem?_set_ne hi
      rw [← h3]
      rcases h2 i with h2 | ⟨s, old, b', hm, h4, h5⟩
      · exact .inl h2
      · exact .inr ⟨s, old, b', by simp [hm], h4, h5⟩
theorem fail_on {m : Dm} (h : m.off = false) (w b : Int) : Dk.fail m w b = { st := tornL m.st m.q (Dk.clamp w m.q.length) (Dk.clamp b 64), q := [], off := true, al := none } := by
  unfold Dk.fail
  rw [if_neg (by rw [h]; decide)]
  rfl
theorem Mix.more {st st' : List Bytes} {q r : List (Nat × Bytes)} (h : Mix st q st') (hq : ∀ x ∈ q, x ∈ r) : Mix st r st' := by
  refine ⟨h.1, fun i => ?_⟩
  rcases h.2 i with h1 | ⟨s, old, b, hm, h4, h5⟩
  · exact .inl h1
  · exact .inr ⟨s, old, b, hq _ hm, h4, h5⟩
theorem count_arm {m : Dm} (h : m.off = false) (hl : ∀ s ∈ m.st, s.length = 64) (hq : ∀ x ∈ m.q, x.2.length = 64) (hd : (m.q.map Prod.fst).Nodup) :
    ((Dk.count m).2 = 0 ∧ (Dk.count m).1.off = false ∧ (Dk.count m).1.q = m.q ∧ (Dk.count m).1.st = m.st) ∨ ((Dk.count m).2 = 26 ∧ (Dk.count m).1.q = [] ∧ Mix m.st m.q (Dk.count m).1.st) := by
  unfold Dk.count
  split
  · exact .inl ⟨rfl, h, rfl, rfl⟩
  · split
    · exact .inl ⟨rfl, h, rfl, rfl⟩
    · rw [fail_on h]
      exact .inr ⟨rfl, rfl, mix_torn _ _ _ _ hl hq hd⟩
theorem writes_arm : ∀ (ss : List Bytes) (m : Dm) (p : Nat), m.off = false → (∀ s ∈ m.st, s.length = 64) → (∀ x ∈ m.q, x.2.length = 64) → p + ss.length ≤ m.st.length → (∀ x ∈ ss, x.length = 64) → ((m.q ++ pend p ss).map Prod.fst).Nodup →
    ((writesB m p ss).2 = 0 ∧ (writesB m p ss).1.off = false ∧ (writesB m p ss).1.q = [] ∧ (writesB m p ss).1.st = Dk.settle m.st (m.q ++ pend p ss)) ∨
    ((writesB m p ss).2 = 26 ∧ (writesB m p ss).1.q = [] ∧ Mix m.st (m.q ++ pend p ss) (writesB m p ss).1.st)
  | [], m, p, ho, hl, hq, hp, hs, hd => by
    have e : writesB m p [] = Dk.sync m := rfl
    rw [e]
    simp only [pend, List.append_nil] at hd ⊢
    unfold Dk.sync
    rw [if_neg (by rw [ho]; decide)]
    rcases count_arm ho hl hq hd with ⟨h1, h2, h3, h4⟩ | ⟨h1, h2, h3⟩
    · rw [if_neg (by simp [h1])]
      exact .inl ⟨rfl, h2, rfl, by dsimp only; rw [h3, h4]⟩
    · rw [if_pos (by simp [h1])]
      exact .inr ⟨h1, h2, h3⟩
  | s :: r, m, p, ho, hl, hq, hp, hs, hd => by
    have hsl := hs s (by simp)
    rw [List.length_cons] at hp
    obtain ⟨m1, hm1⟩ : ∃ m1 : Dm, m1 = { m with q := m.q ++ [(p, s)] } := ⟨_, rfl⟩
    have hw : Dk.write m (p : Int) s = Dk.count m1 := by
      unfold Dk.write Dk.valid
      rw [if_neg (by rw [ho]; decide), if_pos (by rw [hsl, decide_eq_true (by omega : (0 : Int) ≤ (p : Int)), decide_eq_true (by omega : (p : Int) < (m.st.length : Int))]; rfl), hm1, Int.toNat_natCast]
    have e : writesB m p (s :: r) = if (Dk.count m1).2 != 0 then Dk.count m1 else writesB (Dk.count m1).1 (p + 1) r := by rw [← hw]; rfl
    have eq1 : m.q ++ pend p (s :: r) = m1.q ++ pend (p + 1) r := by rw [hm1]; simp [pend]
    have est : m1.st = m.st := by rw [hm1]
    have hq1 : ∀ x ∈ m1.q, x.2.length = 64 := fun x hx => by
      rw [hm1] at hx
      rcases List.mem_append.1 hx with hx | hx
      · exact hq x hx
      · simp at hx; subst hx; exact hsl
    rw [eq1] at hd ⊢
    rw [e, ← est]
    have ho1 : m1.off = false := by rw [hm1]; exact ho
    rcases count_arm ho1 (by rw [est]; exact hl) hq1 (by rw [List.map_append] at hd; exact (List.nodup_append.1 hd).1) with ⟨h1, h2, h3, h4⟩ | ⟨h1, h2, h3⟩
    · rw [if_neg (by simp [h1])]
      have := writes_arm r (Dk.count m1).1 (p + 1) h2 (by rw [h4, est]; exact hl) (by rw [h3]; exact hq1) (by rw [h4, est]; omega) (fun x hx => hs x (by simp [hx])) (by rw [h3]; exact hd)
      rw [h3, h4] at this
      exact this
    · rw [if_pos (by simp [h1])]
      exact .inr ⟨h1, h2, h3.more fun x hx => by simp [hx]⟩
theorem pend_mem : ∀ (ss : List Bytes) (p : Nat) (x : Nat × Bytes), x ∈ pend p ss → ∃ j, x.1 = p + j ∧ ss[j]? = some x.2
  | [], p, x, h => by simp [pend] at h
  | s :: r, p, x, h => by
    rcases List.mem_cons.1 h with rfl | h
    · exact ⟨0, rfl, rfl⟩
    · obtain ⟨j, h1, h2⟩ := pend_mem r (p + 1) x h
      exact ⟨j + 1, by omega, h2⟩
theorem pend_nodup : ∀ (ss : List Bytes) (p : Nat), ((pend p ss).map Prod.fst).Nodup
  | [], p => by simp [pend]
  | s :: r, p => by
    show (p :: (pend (p + 1) r).map Prod.fst).Nodup
    rw [List.nodup_cons]
    refine ⟨fun h => ?_, pend_nodup r (p + 1)⟩
    obtain ⟨x, hx, hp⟩ := List.mem_map.1 h
    obtain ⟨j, h1, -⟩ := pend_mem r (p + 1) x hx
    omega
/-- What a cut leaves of sectors that are written from a place on. -/
structure Torn (st : List Bytes) (p : Nat) (ss : List Bytes) (st' : List Bytes) : Prop where
  num : st'.length = st.length
  len : ∀ s ∈ st', s.length = 64
  same : ∀ i : Nat, i < p ∨ p + ss.length ≤ i → st'[i]? = st[i]?
  any : ∀ i : Nat, st'[i]? = st[i]? ∨ ∃ j s old b, i = p + j ∧ ss[j]? = some s ∧ st[i]? = some old ∧ st'[i]? = some (s.take b ++ old.drop b)
theorem writes_ready {m : Dm} (h : Ready m) {p : Nat} {ss : List Bytes} (hp : p + ss.length ≤ m.st.length) (hs : ∀ x ∈ ss, x.length = 64) :
    ((writesB m p ss).2 = 0 ∧ Ready (writesB m p ss).1 ∧ (writesB m p ss).1.st = over m.st p ss) ∨ ((writesB m p ss).2 = 26 ∧ (writesB m p ss).1.q = [] ∧ Torn m.st p ss (writesB m p ss).1.st) := by
  rcases writes_arm ss m p h.off h.len (by rw [h.q]; simp) hp hs (by rw [h.q]; exact pend_nodup ss p) with ⟨h1, h2, h3, h4⟩ | ⟨h1, h2, h3⟩
  · left
    rw [h.q, List.nil_append, settle_over ss m.st p h.len hs] at h4
    exact ⟨h1, ⟨h2, h3, by rw [h4]; exact over_all _ _ _ h.len hs⟩, h4⟩
  · right
    rw [h.q, List.nil_append] at h3
    have hany : ∀ i : Nat, (writesB m p ss).1.st[i]? = m.st[i]? ∨ ∃ j s old b, i = p + j ∧ ss[j]? = some s ∧ m.st[i]? = some old ∧ (writesB m p ss).1.st[i]? = some (s.take b ++ old.drop b) := fun i => by
      rcases h3.2 i with h4 | ⟨s, old, b, hm, h4, h5⟩
      · exact .inl h4
      · obtain ⟨j, hj, hs2⟩ := pend_mem _ _ _ hm
        exact .inr ⟨j, s, old, b, hj, hs2, h4, h5⟩
    refine ⟨h1, h2, h3.1, fun s hs2 => ?_, fun i hi => ?_, hany⟩
    · obtain ⟨i, hi⟩ := List.getElem?_of_mem hs2
      rcases hany i with h4 | ⟨j, t, old, b, -, ht, h4, h5⟩
      · rw [h4] at hi
        exact h.len s (List.mem_of_getElem? hi)
      · rw [hi] at h5
        cases h5
        have a1 := hs t (List.mem_of_getElem? ht)
        have a2 := h.len old (List.mem_of_getElem? h4)
        rw [List.length_append, List.length_take, List.length_drop]
        omega
    · rcases hany i with h4 | ⟨j, t, old, b, hj, ht, -⟩
      · exact h4
      · have := (List.getElem?_eq_some_iff.1 ht).1
        omega
/-- What 'Open' can read, but for the heads. -/
structure Body (st : List Bytes) (n c : Nat) (recs : List Bytes) : Prop where
  num : st.length = n
  low : 3 ≤ n
  high : n ≤ 40
  room : 2 + c ≤ n
  pieces : ∃ ps : List Bytes, ps.length = c ∧ (∀ (i : Nat) (p : Bytes), ps[i]? = some p → st[2 + i]? = some (sectorB (2 + i) p) ∧ 1 ≤ p.length ∧ p.length ≤ 46) ∧ ps.flatten = textB recs
  recs : ∀ r ∈ recs, r.length ≤ 20000
theorem Body.keep {st st' : List Bytes} {n c : Nat} {recs : List Bytes} (h : Body st n c recs) (hl : st'.length = st.length) (hk : ∀ i, 2 ≤ i → i < 2 + c → st'[i]? = st[i]?) : Body st' n c recs := by
  obtain ⟨ps, h1, h2, h3⟩ := h.pieces
  refine ⟨by rw [hl]; exact h.num, h.low, h.high, h.room, ⟨ps, h1, fun i p hi => ?_, h3⟩, h.recs⟩
  have hi2 := (List.getElem?_eq_some_iff.1 hi).1
  rw [hk (2 + i) (by omega) (by omega)]
  exact h2 i p hi
def hdC (st : List Bytes) (p n : Nat) : Int := countB p (st.getD p []) (n - 2)
theorem hdC_keep {st st' : List Bytes} {p n : Nat} (h : st'[p]? = st[p]?) : hdC st' p n = hdC st p n := by
  unfold hdC
  rw [List.getD_eq_getElem?_getD, List.getD_eq_getElem?_getD, h]
theorem hdC_of {st : List Bytes} {p n : Nat} {s : Bytes} (h : st[p]? = some s) : hdC st p n = countB p s (n - 2) := by
  unfold hdC
  rw [getD_of h]
/-- What 'Open' can read. -/
structure Rec (st : List Bytes) (n c : Nat) (recs : List Bytes) : Prop where
  body : Body st n c recs
  heads : max (hdC st 0 n) (hdC st 1 n) = (c : Int)
theorem Rec.find {m : Dm} {n c : Nat} {recs : List Bytes} (hm : Ready m) (h : Rec m.st n c recs) : findB m = .ok (c, recs) := by
  obtain ⟨ps, h1, h2, h3⟩ := h.body.pieces
  have hnum := h.body.num
  have hlow := h.body.low
  have hfl := find_law (m := m) (by rw [hm.off]; decide) (by omega) (c := (hdC m.st 0 n)) (d := (hdC m.st 1 n)) (by rw [look_calm hm.q, hnum]; rfl) (by rw [look_calm hm.q, hnum]; rfl)
  rw [h.heads, if_neg (by omega), Int.toNat_natCast] at hfl
  have hp : piecesOf m c = some ps := by
    refine piecesOf_some h1 fun k hk => ?_
    obtain ⟨e1, e2, e3⟩ := h2 k _ (List.getElem?_eq_getElem (by omega))
    rw [look_calm hm.q, getD_of e1, pieceB_sector e2 e3, List.getElem?_eq_getElem (by omega)]
  rw [hp] at hfl
  simp only [h3, parse_text _ h.body.recs] at hfl
  exact hfl
theorem head16_0 : ∀ a, a < 39 → ∀ b, b < 39 → (headB 0 a).take 16 = (headB 0 b).take 16 → a = b := by decide +kernel
theorem head16_1 : ∀ a, a < 39 → ∀ b, b < 39 → (headB 1 a).take 16 = (headB 1 b).take 16 → a = b := by decide +kernel
theorem head16 {p a b : Nat} (hp : p < 2) (ha : a < 39) (hb : b < 39) (h : (headB p a).take 16 = (headB p b).take 16) : a = b := by
  rcases (by omega : p = 0 ∨ p = 1) with rfl | rfl
  · exact head16_0 a ha b hb h
  · exact head16_1 a ha b hb h
theorem headB_sealed (p x : Nat) : Sealed p (headB p x) := sealB_sealed _ _
attribute [local irreducible] headB zeroB
theorem headB_first (p x : Nat) : (headB p x)[0]? ≠ some 0 := sealed_byte (headB_sealed p x) (by omega)
theorem mix_first {t old : Bytes} {b k : Nat} (hb : k < b) (hl : k < t.length) : (t.take b ++ old.drop b)[k]? = t[k]? := by
  rw [List.getElem?_append_left (by rw [List.length_take]; omega), List.getElem?_take, if_pos hb]
theorem digits_zero {n : Nat} (h : digitsB n 8 = List.replicate 8 0) : False := by
  have h1 := decB_len_pos n
  have hm : (decB n)[0]'(by omega) ∈ digitsB n 8 := by
    unfold digitsB
    exact List.mem_append_right _ (List.getElem_mem _)
  have h2 := decB_digit (List.getElem_mem (l := decB n) (n := 0) (by omega))
  rw [h] at hm
  rw [(List.mem_replicate.1 hm).2] at h2
  exact absurd h2.1 (by decide)
/-- A head that is torn: none, the new one, or the old one. -/
theorem torn_head {p x room b : Nat} {old : Bytes} (hp : p < 2) (hx : x < 39) (hr : room < 39) (ho : (∃ y, y ≤ room ∧ old = headB p y) ∨ old = zeroB) :
    countB p ((headB p x).take b ++ old.drop b) room = -1 ∨ countB p ((headB p x).take b ++ old.drop b) room = x ∨ countB p ((headB p x).take b ++ old.drop b) room = countB p old room := by
  have hol : old.length = 64 := by
    rcases ho with ⟨y, -, rfl⟩ | rfl
    · exact headB_len _ _
    · exact zeroB_len
  by_cases hb : b = 0
  · subst hb
    exact .inr (.inr (by simp))
  · have hz : (headB p x).take b ++ old.drop b ≠ zeroB := fun he => by
      have h1 := mix_first (t := headB p x) (old := old) (b := b) (k := 0) (by omega) (by rw [headB_len]; decide)
      rw [he, zero_get (by decide)] at h1
      exact headB_first p x h1.symm
    by_cases hn : ∃ n, n ≤ room ∧ headB p n = (headB p x).take b ++ old.drop b
    · obtain ⟨n, hn, he⟩ := hn
      rw [← he, countB_head hn (by omega)]
      by_cases h16 : 16 ≤ b
      · right; left
        have h1 : (headB p n).take 16 = (headB p x).take 16 := by
          rw [he, List.take_append_of_le_length (by rw [List.length_take, headB_len]; omega), List.take_take, Nat.min_eq_left h16]
        rw [head16 hp (by omega) hx h1]
      · right; right
        have e1 : ((headB p x).take b ++ old.drop b).drop 16 = (old.drop b).drop (16 - b) := by
          rw [List.drop_append, List.drop_of_length_le (by rw [List.length_take, headB_len]; omega), List.nil_append, List.length_take, headB_len, Nat.min_eq_left (by omega)]
        have h1 : (headB p n).drop 16 = old.drop 16 := by
          rw [he, e1, List.drop_drop, show b + (16 - b) = 16 by omega]
        rcases ho with ⟨y, hy, rfl⟩ | rfl
        · have h2 := headB_num (place := p) (n := n) (by omega)
          rw [h1, headB_num (by omega)] at h2
          rw [← digitsB_inj h2, countB_head hy (by omega)]
        · have h2 := headB_num (place := p) (n := n) (by omega)
          rw [h1] at h2
          exact (digits_zero (h2.symm.trans (by decide +kernel))).elim
    · exact .inl (countB_none hz fun n hn2 he => hn ⟨n, hn2, he⟩)
theorem torn_zero {p room b : Nat} {old : Bytes} : countB p (zeroB.take b ++ old.drop b) room = -1 ∨ countB p (zeroB.take b ++ old.drop b) room = 0 ∨ countB p (zeroB.take b ++ old.drop b) room = countB p old room := by
  by_cases hb : b = 0
  · subst hb
    exact .inr (.inr (by simp))
  · by_cases hz : zeroB.take b ++ old.drop b = zeroB
    · rw [hz, countB_zero]
      exact .inr (.inl rfl)
    · refine .inl (countB_none hz fun n hn he => ?_)
      have h1 := mix_first (t := zeroB) (old := old) (b := b) (k := 0) (by omega) (by rw [zeroB_len]; decide)
      rw [← he, zero_get (by decide)] at h1
      exact headB_first p n h1
theorem count_inv {p room c : Nat} {s : Bytes} (h : countB p s room = (c : Int)) : s = headB p c ∨ (c = 0 ∧ s = zeroB) := by
  unfold countB at h
  split at h
  · exact .inr ⟨by omega, by assumption⟩
  · split at h
    · rename_i k hk
      have := List.find?_some hk
      have hkc : k = c := by omega
      subst hkc
      exact .inl (beq_iff_eq.1 this).symm
    · omega
/-- A head is written over; the power may fail. -/
theorem hd_torn {st st' : List Bytes} {p x n : Nat} (h : Torn st p [headB p x] st') (hp : p < 2) (hpn : p < st.length) (hx : x < 39) (hn : n ≤ 40) (ho : ∀ s, st[p]? = some s → (∃ y, y ≤ n - 2 ∧ s = headB p y) ∨ s = zeroB) :
    (hdC st' p n = -1 ∨ hdC st' p n = x ∨ hdC st' p n = hdC st p n) ∧ ∀ i, i ≠ p → st'[i]? = st[i]? := by
  refine ⟨?_, fun i hi => h.same i (by simp; omega)⟩
  rcases h.any p with h1 | ⟨j, s, old, b, hj, hs, h2, h3⟩
  · exact .inr (.inr (hdC_keep h1))
  · have hj0 : j = 0 := by omega
    subst hj0
    simp at hs
    subst hs
    rw [hdC_of h3, hdC_of h2]
    exact torn_head hp hx (by omega) (ho _ h2)
theorem hd_zero {st st' : List Bytes} {p n : Nat} (h : Torn st p [zeroB] st') (hpn : p < st.length) :
    (hdC st' p n = -1 ∨ hdC st' p n = 0 ∨ hdC st' p n = hdC st p n) ∧ ∀ i, i ≠ p → st'[i]? = st[i]? := by
  refine ⟨?_, fun i hi => h.same i (by simp; omega)⟩
  rcases h.any p with h1 | ⟨j, s, old, b, hj, hs, h2, h3⟩
  · exact .inr (.inr (hdC_keep h1))
  · have hj0 : j = 0 := by omega
    subst hj0
    simp at hs
    subst hs
    rw [hdC_of h3, hdC_of h2]
    exact torn_zero
theorem over_one {st : List Bytes} {p : Nat} {s : Bytes} (hp : p < st.length) : (over st p [s])[p]? = some s ∧ ∀ i, i ≠ p → (over st p [s])[i]? = st[i]? :=
  ⟨by show (st.set p s)[p]? = _; rw [List.getElem?_set_self hp], fun i hi => by show (st.set p s)[i]? = _; rw [List.getElem?_set_ne (Ne.symm hi)]⟩
def cal (st : List Bytes) : Dm := ⟨st, [], false, none⟩
theorem whole {st : List Bytes} {n c : Nat} {recs : List Bytes} (hl : ∀ s ∈ st, s.length = 64) (hb : Body st n c recs) (hh : ∀ p, p < 2 → ∃ s, st[p]? = some s ∧ (s = headB p c ∨ (c = 0 ∧ s = zeroB))) : Inv (cal st) ⟨n, c, recs, false⟩ :=
  ⟨⟨rfl, rfl, rfl, hl⟩, hb.num, hb.low, by have := hb.high; show n ≤ 4000; omega, rfl, hb.room, hh, hb.pieces, hb.recs⟩
theorem Inv.body {m : Dm} {j : Jm} (h : Inv m j) (hn : j.sectors ≤ 40) : Body m.st j.sectors j.count j.recs := ⟨h.sec, h.low, hn, h.room, h.pieces, h.recs⟩
theorem head_hd {st : List Bytes} {p n c : Nat} (hc : 2 + c ≤ n) (hn : n ≤ 40) (hh : ∃ s, st[p]? = some s ∧ (s = headB p c ∨ (c = 0 ∧ s = zeroB))) : hdC st p n = (c : Int) := by
  obtain ⟨s, hs, h1⟩ := hh
  rw [hdC_of hs]
  rcases h1 with rfl | ⟨rfl, rfl⟩
  · exact countB_head (by omega) (by omega)
  · rw [countB_zero]; rfl
theorem Inv.toRec {m : Dm} {j : Jm} (h : Inv m j) (hn : j.sectors ≤ 40) : Rec m.st j.sectors j.count j.recs := by
  refine ⟨h.body hn, ?_⟩
  rw [head_hd h.room hn (h.head 0 (by omega)), head_hd h.room hn (h.head 1 (by omega))]
  omega
end Go.Cz.Jn
