/-
  A disk with writes pending, and its twin without; what 'Open' finds is whole.
-/
import Derived.Test.YtjcjpekndeoonaaGreatDoorJnRot
import Derived.Test.YtjcjpekndeoonaaGreatDoorJnMore
namespace Go.Cz.Jn
set_option linter.unusedSimpArgs false
set_option linter.unusedVariables false
open Go.Cz.Dk (Dm)
structure On (m : Dm) : Prop where
  off : m.off = false
  al : m.al = none
  ok : m.ok
def flat (m : Dm) : Dm := { m with st := Dk.settle m.st m.q, q := [] }
theorem On.calm {m : Dm} (h : On m) : Calm (flat m) := ⟨h.off, h.al, rfl, Dk.settle_all _ _ h.ok.1 fun p hp => (h.ok.2.1 p hp).2⟩
theorem Calm.on {m : Dm} (h : Calm m) : On m := ⟨h.off, h.al, h.len, by rw [h.q]; simp, by rw [h.al]; simp⟩
theorem flat_len (m : Dm) : (flat m).st.length = m.st.length := Dk.length_settle _ _
theorem flat_calm {m : Dm} (h : Calm m) : flat m = m := by
  obtain ⟨st, q, off, al⟩ := m
  have hq : q = [] := h.q
  subst hq
  rfl
def lookL (st : List Bytes) (q : List (Nat × Bytes)) (i : Nat) : Bytes := match q.reverse.find? (fun p => p.1 == i) with | some p => p.2 | none => st.getD i []
theorem look_gen : ∀ (q : List (Nat × Bytes)) (st : List Bytes), (∀ s ∈ st, s.length = 64) → (∀ p ∈ q, p.1 < st.length ∧ p.2.length = 64) → ∀ i, lookL st q i = (Dk.settle st q).getD i []
  | [], st, _, _, i => rfl
  | p :: q, st, h, hq, i => by
    have hp := hq p (by simp)
    have hs : Dk.setS st p.1 p.2 = st.set p.1 p.2 := setS_set h hp.2
    have h2 := look_gen q (st.set p.1 p.2) (set_all h hp.2) (fun x hx => by rw [List.length_set]; exact hq x (by simp [hx])) i
    show lookL st (p :: q) i = (Dk.settle (Dk.setS st p.1 p.2) q).getD i []
    rw [hs, ← h2]
    unfold lookL
    rw [List.reverse_cons, List.find?_append]
    cases hf : q.reverse.find? (fun p => p.1 == i) with
    | some x => simp
    | none =>
      simp only [Option.none_or, List.find?_cons, List.find?_nil]
      by_cases hi : p.1 = i
      · subst hi
        simp [List.getD_eq_getElem?_getD, hp.1]
      · have hb : (p.1 == i) = false := by simpa using hi
        rw [hb]
        simp [List.getD_eq_getElem?_getD, List.getElem?_set_ne hi]
theorem look_flat {m : Dm} (h : On m) (i : Nat) : Dk.look (flat m) i = Dk.look m i := by
  have h1 := look_gen m.q m.st h.ok.1 h.ok.2.1 i
  rw [look_calm h.calm.q]
  exact h1.symm
theorem find_flat {m : Dm} (h : On m) : findB (flat m) = findB m := by
  have e : Dk.look (flat m) = Dk.look m := funext (look_flat h)
  have eo : (flat m).off = m.off := rfl
  unfold findB piecesOf
  rw [e, flat_len, eo]
theorem settle_app (st : List Bytes) (a b : List (Nat × Bytes)) : Dk.settle st (a ++ b) = Dk.settle (Dk.settle st a) b := List.foldl_append ..
theorem writes_flat {m : Dm} (h : On m) {p : Nat} {ss : List Bytes} (hp : p + ss.length ≤ m.st.length) (hs : ∀ x ∈ ss, x.length = 64) : writesB m p ss = writesB (flat m) p ss := by
  rw [writes_on ss m p h.off h.al hp hs, writes_on ss (flat m) p h.off h.al (by rw [flat_len]; exact hp) hs, settle_app]
  rfl
theorem fix_flat {m : Dm} (h : On m) {p : Nat} (hp : p < m.st.length) (old : Bytes) (c : Nat) : (fixB m p old c).2 = 0 ∧ On (fixB m p old c).1 ∧ flat (fixB m p old c).1 = (fixB (flat m) p old c).1 ∧ (fixB m p old c).1.st.length = m.st.length := by
  obtain ⟨a1, a2, a3⟩ := fix_calm h.calm (p := p) (by rw [flat_len]; exact hp) old c
  rw [flat_len] at a3
  by_cases hc : old = headB p c ∨ (c = 0 ∧ old = zeroB)
  · have e : ∀ m : Dm, fixB m p old c = (m, 0) := fun m => by unfold fixB; rw [if_pos hc]
    rw [e, e]
    exact ⟨rfl, h, rfl, rfl⟩
  · have e : fixB m p old c = fixB (flat m) p old c := by
      unfold fixB
      rw [if_neg hc, if_neg hc, writes_flat h (by simp; omega) fun x hx => by simp at hx; subst hx; exact zeroB_len]
    rw [e]
    exact ⟨a1, a2.on, flat_calm a2, a3⟩
theorem open_flat {m : Dm} (h : On m) (h3 : 3 ≤ m.st.length) : (openB m).2 = (openB (flat m)).2 ∧ On (openB m).1 ∧ flat (openB m).1 = (openB (flat m)).1 ∧ (openB m).1.st.length = m.st.length := by
  have hf := find_flat h
  cases hfm : findB m with
  | error e =>
    rw [hfm] at hf
    rw [open_err hfm, open_err hf]
    exact ⟨rfl, h, rfl, rfl⟩
  | ok x =>
    obtain ⟨c, rs⟩ := x
    rw [hfm] at hf
    obtain ⟨a1, a2, a3, a4⟩ := fix_flat h (p := 0) (by omega) (Dk.look m 0) c
    obtain ⟨b1, b2, b3, b4⟩ := fix_flat a2 (p := 1) (by omega) (Dk.look m 1) c
    obtain ⟨c1, c2, c3⟩ := fix_calm h.calm (p := 0) (by rw [flat_len]; omega) (Dk.look (flat m) 0) c
    obtain ⟨d1, d2, d3⟩ := fix_calm c2 (p := 1) (by rw [c3, flat_len]; omega) (Dk.look (flat m) 1) c
    rw [open_ok hfm rfl rfl, open_ok hf rfl rfl, if_neg (by simp [a1]), if_neg (by simp [b1]), if_neg (by simp [c1]), if_neg (by simp [d1])]
    refine ⟨by rw [flat_len], b2, ?_, b4.trans a4⟩
    dsimp only
    rw [b3, a3, look_flat h, look_flat h]
theorem parse_inv : ∀ (f : Nat) (l : Bytes) (rs : List Bytes), parseGo f l = some rs → textB rs = l ∧ ∀ r ∈ rs, r.length ≤ 20000
  | 0, l, rs, h => by cases h
  | f + 1, l, rs, h => by
    rw [parseGo_succ] at h
    by_cases hl : l = []
    · rw [if_pos hl] at h
      cases h
      rw [hl]
      exact ⟨rfl, by simp⟩
    · rw [if_neg hl] at h
      cases hk : l.findIdx? (· == 58) with
      | none => rw [hk] at h; cases h
      | some k =>
        rw [hk] at h
        dsimp only at h
        cases hn : numB (l.take k) with
        | none => rw [hn] at h; cases h
        | some n =>
          rw [hn] at h
          dsimp only at h
          split at h
          · rename_i hle
            obtain ⟨xs, hx, rfl⟩ := Option.map_eq_some_iff.1 h
            obtain ⟨h1, h2⟩ := parse_inv f _ xs hx
            obtain ⟨n1, n2⟩ := numB_some hn
            obtain ⟨hkl, hke, -⟩ := List.findIdx?_eq_some_iff_getElem.1 hk
            have hke' : l[k] = 58 := by simpa using hke
            have htl : ((l.drop (k + 1)).take n).length = n := by rw [List.length_take]; omega
            refine ⟨?_, fun r hr => ?_⟩
            · have e : textB ((l.drop (k + 1)).take n :: xs) = (decB ((l.drop (k + 1)).take n).length ++ 58 :: (l.drop (k + 1)).take n) ++ textB xs := by simp [textB]
              rw [e, htl, n2, h1, List.append_assoc, List.cons_append, List.take_append_drop, ← hke', ← List.drop_eq_getElem_cons hkl, List.take_append_drop]
            · rcases List.mem_cons.1 hr with rfl | hr
              · omega
              · exact h2 r hr
          · cases h
theorem foldr_inv : ∀ (xs : List (Option Bytes)) (ys : List Bytes), xs.foldr (fun x a => match x, a with | some x, some a => some (x :: a) | _, _ => none) (some []) = some ys → xs = ys.map some
  | [], ys, h => by
    cases h
    rfl
  | x :: xs, ys, h => by
    rw [List.foldr_cons] at h
    cases hr : xs.foldr (fun x a => match x, a with | some x, some a => some (x :: a) | _, _ => none) (some []) with
    | none =>
      rw [hr] at h
      cases x <;> cases h
    | some zs =>
      rw [hr] at h
      cases x with
      | none => cases h
      | some x =>
        cases h
        rw [List.map_cons, ← foldr_inv xs zs hr]
theorem piece_inv {p : Nat} {s t : Bytes} (hl : s.length = 64) (h : pieceB p s = some t) : s = sectorB p t ∧ 1 ≤ t.length ∧ t.length ≤ 46 := by
  unfold pieceB at h
  obtain ⟨n, hn, rfl⟩ := Option.map_eq_some_iff.1 h
  have h1 := List.mem_range.1 (List.mem_of_find?_eq_some hn)
  have h2 := List.find?_some hn
  simp only [Bool.and_eq_true, decide_eq_true_eq, beq_iff_eq] at h2
  have h3 : ((s.drop 18).take n).length = n := by rw [List.length_take, List.length_drop]; omega
  exact ⟨h2.2.symm, by omega, by omega⟩
theorem fix_head {m : Dm} (h : Calm m) {p : Nat} (hp : p < m.st.length) (c : Nat) : (∃ s, (fixB m p (Dk.look m p) c).1.st[p]? = some s ∧ (s = headB p c ∨ (c = 0 ∧ s = zeroB))) ∧ ∀ k, k ≠ p → (fixB m p (Dk.look m p) c).1.st[k]? = m.st[k]? := by
  have hz : ∀ x ∈ [zeroB], x.length = 64 := fun x hx => by simp at hx; subst hx; exact zeroB_len
  have hh : ∀ x ∈ [headB p c], x.length = 64 := fun x hx => by simp at hx; subst hx; exact headB_len _ _
  have e1 := writes_calm h (p := p) (ss := [zeroB]) (by simp; omega) hz
  have c1 := h.over (p := p) hz
  have l1 : (over m.st p [zeroB]).length = m.st.length := over_len _ _ _
  have e2 := writes_calm c1 (p := p) (ss := [headB p c]) (by dsimp only; rw [l1]; simp; omega) hh
  have hg : m.st[p]? = some (Dk.look m p) := by rw [look_calm h.q, List.getElem?_eq_getElem hp, List.getD_eq_getElem?_getD, List.getElem?_eq_getElem hp]; rfl
  unfold fixB
  by_cases hc : Dk.look m p = headB p c ∨ (c = 0 ∧ Dk.look m p = zeroB)
  · rw [if_pos hc]
    exact ⟨⟨_, hg, hc⟩, fun k _ => rfl⟩
  · rw [if_neg hc, e1]
    by_cases h0 : 0 < c
    · rw [if_pos ⟨rfl, h0⟩, e2]
      refine ⟨⟨headB p c, ?_, .inl rfl⟩, fun k hk => ?_⟩
      · show ((m.st.set p zeroB).set p (headB p c))[p]? = _
        rw [List.getElem?_set_self (by rw [List.length_set]; exact hp)]
      · show ((m.st.set p zeroB).set p (headB p c))[k]? = _
        rw [List.getElem?_set_ne (Ne.symm hk), List.getElem?_set_ne (Ne.symm hk)]
    · rw [if_neg fun hx => h0 hx.2]
      refine ⟨⟨zeroB, ?_, .inr ⟨by omega, rfl⟩⟩, fun k hk => ?_⟩
      · show (m.st.set p zeroB)[p]? = _
        rw [List.getElem?_set_self hp]
      · show (m.st.set p zeroB)[k]? = _
        rw [List.getElem?_set_ne (Ne.symm hk)]
/-- What 'Open' returns is whole. -/
theorem open_inv {m : Dm} (h : Calm m) (h3 : 3 ≤ m.st.length) (h4 : m.st.length ≤ 4000) {c : Nat} {rs : List Bytes} (hf : findB m = .ok (c, rs)) : openB m = ((openB m).1, 0, ⟨m.st.length, c, rs, false⟩) ∧ Inv (openB m).1 ⟨m.st.length, c, rs, false⟩ := by
  have hfl := find_law (m := m) (by rw [h.off]; decide) h3 rfl rfl
  obtain ⟨M, hM⟩ : ∃ M, M = max (countB 0 (Dk.look m 0) (m.st.length - 2)) (countB 1 (Dk.look m 1) (m.st.length - 2)) := ⟨_, rfl⟩
  rw [← hM, hf] at hfl
  have hMle : M ≤ (m.st.length - 2 : Nat) := by
    have a := (countB_le 0 (Dk.look m 0) (m.st.length - 2)).2
    have b := (countB_le 1 (Dk.look m 1) (m.st.length - 2)).2
    omega
  by_cases hM0 : M < 0
  · rw [if_pos hM0] at hfl
    cases hfl
  · rw [if_neg hM0] at hfl
    cases hp : piecesOf m M.toNat with
    | none => rw [hp] at hfl; cases hfl
    | some ps =>
      rw [hp] at hfl
      dsimp only at hfl
      cases hr : parseB ps.flatten with
      | none => rw [hr] at hfl; cases hfl
      | some xs =>
        rw [hr] at hfl
        dsimp only at hfl
        simp only [Except.ok.injEq, Prod.mk.injEq] at hfl
        obtain ⟨hc, rfl⟩ := hfl
        rw [← hc] at hp
        have hxs := foldr_inv _ _ hp
        have hpl : ps.length = c := by
          have := congrArg List.length hxs
          simpa using this.symm
        obtain ⟨t1, t2⟩ := parse_inv _ _ _ hr
        obtain ⟨a1, a2, a3⟩ := fix_calm h (p := 0) (by omega) (Dk.look m 0) c
        obtain ⟨f1, f2⟩ := fix_head h (p := 0) (by omega) c
        have hlk : Dk.look (fixB m 0 (Dk.look m 0) c).1 1 = Dk.look m 1 := by
          rw [look_calm a2.q 1, look_calm h.q 1, List.getD_eq_getElem?_getD, List.getD_eq_getElem?_getD, f2 1 (by omega)]
        obtain ⟨b1, b2, b3⟩ := fix_calm a2 (p := 1) (by omega) (Dk.look m 1) c
        obtain ⟨g1, g2⟩ := fix_head a2 (p := 1) (by omega) c
        rw [hlk] at g1 g2
        have e : openB m = ((fixB (fixB m 0 (Dk.look m 0) c).1 1 (Dk.look m 1) c).1, 0, ⟨m.st.length, c, rs, false⟩) := by
          rw [open_ok hf rfl rfl, if_neg (by simp [a1]), if_neg (by simp [b1])]
        rw [e]
        refine ⟨rfl, ⟨b2, b3.trans a3, h3, h4, rfl, by show 2 + c ≤ m.st.length; omega, fun p hp2 => ?_, ⟨ps, hpl, fun i q hi => ?_, t1.symm⟩, t2⟩⟩
        · rcases (by omega : p = 0 ∨ p = 1) with rfl | rfl
          · obtain ⟨s, hs, hs2⟩ := f1
            exact ⟨s, by rw [g2 0 (by omega)]; exact hs, hs2⟩
          · exact g1
        · have hic : i < c := by rw [← hpl]; exact (List.getElem?_eq_some_iff.1 hi).1
          have h2i : 2 + i < m.st.length := by omega
          have hpi : pieceB (2 + i) (Dk.look m (2 + i)) = some q := by
            have := congrArg (·[i]?) hxs
            simp only [List.getElem?_map, List.getElem?_range hic, hi, Option.map_some] at this
            exact Option.some.inj this
          have hgi : m.st[2 + i]? = some (Dk.look m (2 + i)) := by rw [look_calm h.q, List.getElem?_eq_getElem h2i, List.getD_eq_getElem?_getD, List.getElem?_eq_getElem h2i]; rfl
          obtain ⟨q1, q2, q3⟩ := piece_inv (h.len _ (List.mem_of_getElem? hgi)) hpi
          refine ⟨?_, q2, q3⟩
          rw [g2 (2 + i) (by omega), f2 (2 + i) (by omega), hgi, ← q1]
/-- 'Append' on a disk with writes pending. -/
theorem append_flat {m : Dm} (h : On m) {j : Jm} (hi : Inv (flat m) j) (rs : List Bytes) : (appendB m j rs).2 = (appendB (flat m) j rs).2 ∧ On (appendB m j rs).1 ∧ flat (appendB m j rs).1 = (appendB (flat m) j rs).1 := by
  have hok := hi.ok
  by_cases hl : longB rs = true
  · have e : ∀ m : Dm, appendB m j rs = (m, 2, j) := fun m => by unfold appendB; rw [if_neg (by rw [hok]; decide), if_pos hl]
    rw [e, e]
    exact ⟨rfl, h, rfl⟩
  · by_cases hr : j.room < (piecesB (textB rs)).length
    · have e : ∀ m : Dm, appendB m j rs = (m, 28, j) := fun m => by unfold appendB; rw [if_neg (by rw [hok]; decide), if_neg hl, if_pos hr]
      rw [e, e]
      exact ⟨rfl, h, rfl⟩
    · by_cases hn : rs = []
      · have e : ∀ m : Dm, appendB m j rs = (m, 0, j) := fun m => by unfold appendB; rw [if_neg (by rw [hok]; decide), if_neg hl, if_neg hr, if_pos hn]
        rw [e, e]
        exact ⟨rfl, h, rfl⟩
      · have hroom : 2 + j.count + (piecesB (textB rs)).length ≤ m.st.length := by
          have h1 := hi.sec
          have h2 := hi.room
          rw [flat_len] at h1
          unfold Jm.room at hr
          omega
        have hst : stepsB m j.count (piecesB (textB rs)) = stepsB (flat m) j.count (piecesB (textB rs)) := by
          unfold stepsB
          rw [writes_flat h (p := 2 + j.count) (by rw [List.length_map]; exact hroom) fun x hx => by obtain ⟨_, _, rfl⟩ := List.mem_map.1 hx; exact zeroB_len]
        have e : appendB m j rs = appendB (flat m) j rs := by
          have e0 : ∀ m : Dm, appendB m j rs = ((stepsB m j.count (piecesB (textB rs))).1, (stepsB m j.count (piecesB (textB rs))).2, if (stepsB m j.count (piecesB (textB rs))).2 = 0 then { j with count := j.count + (piecesB (textB rs)).length, recs := j.recs ++ rs } else { j with broken := true }) := fun m => by
            unfold appendB
            rw [if_neg (by rw [hok]; decide), if_neg hl, if_neg hr, if_neg hn]
          rw [e0, e0, hst]
        have hc := (hi.app rs).1.calm
        rw [e]
        exact ⟨rfl, hc.on, flat_calm hc⟩
end Go.Cz.Jn
