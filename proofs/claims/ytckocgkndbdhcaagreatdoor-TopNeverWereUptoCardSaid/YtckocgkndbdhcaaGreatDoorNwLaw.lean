/-
  The changes of one Id are left out: the others are listed as before.
-/
import Derived.Test.YtckocgkndbdhcaaGreatDoorNwAt
namespace Go.Cz.Nw
open Go.Cz.Lx
/-- The first entry with the Id of a change is replaced. -/
def upd (c : Chg) : List Lst → List Lst
  | [] => []
  | x :: r => if x.id == c.id then turned x c :: r else x :: upd c r
def firstOf (id : Bytes) : List Lst → Option Lst
  | [] => none
  | x :: r => if x.id == id then some x else firstOf id r
def neL (id : Bytes) (x : Lst) : Bool := !(x.id == id)
def neC (id : Bytes) (c : Chg) : Bool := !(c.id == id)
structure Sub where
  nv : Value
  ns : List Nm
  void : Bool
def stepS (id : Bytes) (s : Sub) (c : Chg) (e : Int) : Sub :=
  if c.id = id then { nv := if e = 0 ∧ (c.k = 1 ∨ c.k = 3) then c.nv else s.nv, ns := if e = 0 ∧ (c.k = 1 ∨ c.k = 3) then c.ns else s.ns, void := s.void || (c.k == 4 && e == 0) } else s
def track (id : Bytes) : List Lst → Sub → List Chg → Sub
  | _, s, [] => s
  | l, s, c :: r => track id (applyL l c) (stepS id s c (applyE l c)) r
theorem track_snoc (id : Bytes) : ∀ (cs : List Chg) (l : List Lst) (s : Sub) (c : Chg), track id l s (cs ++ [c]) = stepS id (track id l s cs) c (applyE (runL l cs) c)
  | [], l, s, c => rfl
  | d :: r, l, s, c => by
    have := track_snoc id r (applyL l d) (stepS id s d (applyE l d)) c
    simp only [List.cons_append, track, this]
    rfl
/-- What is known of the entry with the Id. -/
def SubI (id : Bytes) (l : List Lst) (s : Sub) : Prop := (∀ x ∈ l, x.id = id → x.nv = s.nv ∧ x.ns = s.ns ∧ (s.void = true → x.vd = true)) ∧ (s.void = true → id ∈ l.map (·.id))
theorem place_first (id : Bytes) : ∀ l : List Lst, (placeOf id l = none ∧ firstOf id l = none) ∨ ∃ j x, placeOf id l = some j ∧ l[j]? = some x ∧ firstOf id l = some x ∧ x.id = id ∧ ∀ c : Chg, c.id = id → l.set j (turned x c) = upd c l
  | [] => .inl ⟨rfl, rfl⟩
  | y :: r => by
    by_cases h : (y.id == id) = true
    · refine .inr ⟨0, y, ?_, rfl, ?_, by simpa using h, fun c hc => ?_⟩
      · unfold placeOf
        rw [List.findIdx?_cons, if_pos h]
      · unfold firstOf
        rw [if_pos h]
      · unfold upd
        rw [hc, if_pos h]
        rfl
    · have e1 : placeOf id (y :: r) = (placeOf id r).map (· + 1) := by
        unfold placeOf
        rw [List.findIdx?_cons, if_neg h]
      have e2 : firstOf id (y :: r) = firstOf id r := by
        rw [firstOf, if_neg h]
      rcases place_first id r with ⟨h1, h2⟩ | ⟨j, x, h1, h2, h3, h4, h5⟩
      · exact .inl ⟨by rw [e1, h1]; rfl, by rw [e2, h2]⟩
      · refine .inr ⟨j + 1, x, by rw [e1, h1]; rfl, by simpa using h2, by rw [e2, h3], h4, fun c hc => ?_⟩
        rw [upd, hc, if_neg h, List.set_cons_succ, h5 c hc]
theorem first_filter {id id' : Bytes} (h : id' ≠ id) : ∀ l : List Lst, firstOf id' (l.filter (neL id)) = firstOf id' l
  | [] => rfl
  | x :: r => by
    by_cases h1 : x.id = id
    · rw [List.filter_cons_of_neg (by simp [neL, h1]), first_filter h r, firstOf, if_neg (by rw [h1]; simpa using fun e => h e.symm)]
    · rw [List.filter_cons_of_pos (by simp [neL, h1]), firstOf, firstOf, first_filter h r]
theorem filter_at {α : Type} (p : α → Bool) : ∀ (l : List α) (i : Nat) (x : α), l[i]? = some x → p x = true → (l.filter p)[((l.take i).filter p).length]? = some x
  | [], i, x, h, _ => by simp at h
  | y :: r, 0, x, h, hp => by
    simp at h
    subst h
    simp [hp]
  | y :: r, i + 1, x, h, hp => by
    have ih := filter_at p r i x (by simpa using h) hp
    by_cases hy : p y = true
    · rw [List.take_succ_cons, List.filter_cons_of_pos hy, List.filter_cons_of_pos hy]
      simpa using ih
    · rw [List.take_succ_cons, List.filter_cons_of_neg hy, List.filter_cons_of_neg hy]
      exact ih
theorem stand_filter (t : Int) (p : Lst → Bool) (l : List Lst) : standL t (l.filter p) = (standL t l).filter p := by
  unfold standL
  split
  · rw [List.filter_filter, List.filter_filter]
    congr 1
    funext x
    exact Bool.and_comm _ _
  · rfl
theorem stand_mem {t : Int} {l : List Lst} {x : Lst} (h : x ∈ standL t l) : x ∈ l ∧ x.vd = false := by
  unfold standL at h
  split at h
  · obtain ⟨h1, h2⟩ := List.mem_filter.1 h
    refine ⟨h1, ?_⟩
    simp only [standB, Bool.and_eq_true, Bool.not_eq_true'] at h2
    exact h2.1
  · cases h
end Go.Cz.Nw
namespace Go.Proofs.YtckocgkndbdhcaaGreatDoor
open Go.RowKit Go.Cz Go.Cz.Nw Go.Cz.Lx
theorem turned_same {c : Chg} {x : Lst} (hf : formedB c = true) (h : x.id = c.id) : (turned x c).id = c.id := by
  unfold turned
  split
  · exact h
  · split
    · next h3 => exact (formed_turn hf h3).1
    · exact h
theorem upd_other {id : Bytes} {c : Chg} (hf : formedB c = true) (h : c.id ≠ id) : ∀ l : List Lst, (upd c l).filter (neL id) = upd c (l.filter (neL id))
  | [] => rfl
  | x :: r => by
    by_cases h1 : x.id = c.id
    · have h2 : ¬ x.id = id := by rw [h1]; exact h
      rw [upd, if_pos (by simpa using h1), List.filter_cons_of_pos (by simp [neL, turned_same hf h1, h]), List.filter_cons_of_pos (by simp [neL, h2]), upd, if_pos (by simpa using h1)]
    · rw [upd, if_neg (by simpa using h1)]
      by_cases h2 : x.id = id
      · rw [List.filter_cons_of_neg (by simp [neL, h2]), List.filter_cons_of_neg (by simp [neL, h2]), upd_other hf h r]
      · rw [List.filter_cons_of_pos (by simp [neL, h2]), List.filter_cons_of_pos (by simp [neL, h2]), upd, if_neg (by simpa using h1), upd_other hf h r]
theorem upd_same {c : Chg} (hf : formedB c = true) : ∀ l : List Lst, (upd c l).filter (neL c.id) = l.filter (neL c.id)
  | [] => rfl
  | x :: r => by
    by_cases h1 : x.id = c.id
    · rw [upd, if_pos (by simpa using h1), List.filter_cons_of_neg (by simp [neL, turned_same hf h1]), List.filter_cons_of_neg (by simp [neL, h1])]
    · rw [upd, if_neg (by simpa using h1), List.filter_cons_of_pos (by simp [neL, h1]), List.filter_cons_of_pos (by simp [neL, h1]), upd_same hf r]
theorem applyE_first (l : List Lst) (c : Chg) : applyE l c = if formedB c = false then 1 else match firstOf c.id l with
    | some x => if c.k = 1 then 9 else if x.vd || (c.k == 2 && x.til != -1) then 12 else if c.k == 2 && decide (c.at_ ≤ x.fr) then 14 else 0
    | none => if c.k = 1 then (if l.length = 400 then 2 else 0) else 11 := by
  unfold applyE
  rcases place_first c.id l with ⟨h1, h2⟩ | ⟨j, x, h1, h2, h3, h4, h5⟩
  · rw [h1, h2]
  · rw [h1, h3]
    simp only [h2]
theorem applyL_first (l : List Lst) (c : Chg) : applyL l c = if applyE l c ≠ 0 then l else match firstOf c.id l with
    | some _ => upd c l
    | none => l ++ [⟨c.eid, c.nv, c.ns, c.at_, -1, false⟩] := by
  unfold applyL
  rcases place_first c.id l with ⟨h1, h2⟩ | ⟨j, x, h1, h2, h3, h4, h5⟩
  · rw [h1, h2]
  · rw [h1, h3]
    simp only [h2, h5 c rfl]
theorem first_none {l : List Lst} {c : Chg} (h : applyE l c = 0) (hp : firstOf c.id l = none) : c.k = 1 ∧ c.eid = c.id ∧ c.id ∉ l.map (·.id) := by
  rcases place_first c.id l with ⟨h1, h2⟩ | ⟨j, x, h1, h2, h3, h4, h5⟩
  · exact ⟨applyE_none h h1, (formed_new (applyE_formed h) (applyE_none h h1)).1, place_none h1⟩
  · rw [h3] at hp
    cases hp
theorem other_step {id : Bytes} {l : List Lst} {c : Chg} (h : c.id ≠ id) (hlen : l.length < 400) : (applyL l c).filter (neL id) = applyL (l.filter (neL id)) c := by
  have hl2 : (l.filter (neL id)).length < 400 := Nat.lt_of_le_of_lt (List.length_filter_le _ _) hlen
  have hE : applyE (l.filter (neL id)) c = applyE l c := by
    rw [applyE_first, applyE_first, first_filter h, if_neg (c := (l.filter (neL id)).length = 400) (by omega), if_neg (c := l.length = 400) (by omega)]
  rw [applyL_first, applyL_first, hE, first_filter h]
  by_cases he : applyE l c = 0
  · rw [if_neg (by simpa using he), if_neg (by simpa using he)]
    rcases hp : firstOf c.id l with _ | x
    · obtain ⟨h1, h2, h3⟩ := first_none he hp
      dsimp only
      rw [List.filter_append, List.filter_cons_of_pos (by simp [neL, h2, h]), List.filter_nil]
    · exact upd_other (applyE_formed he) h l
  · rw [if_pos he, if_pos he]
theorem same_step {l : List Lst} {c : Chg} : (applyL l c).filter (neL c.id) = l.filter (neL c.id) := by
  rw [applyL_first]
  by_cases he : applyE l c = 0
  · rw [if_neg (by simpa using he)]
    rcases hp : firstOf c.id l with _ | x
    · obtain ⟨h1, h2, h3⟩ := first_none he hp
      dsimp only
      rw [List.filter_append, List.filter_cons_of_neg (by simp [neL, h2]), List.filter_nil, List.append_nil]
    · exact upd_same (applyE_formed he) l
  · rw [if_pos he]
theorem nodup_at {l : List Lst} (hn : (l.map (·.id)).Nodup) {i j : Nat} {x y : Lst} (hi : l[i]? = some x) (hj : l[j]? = some y) (h : x.id = y.id) : i = j := by
  obtain ⟨h1, rfl⟩ := List.getElem?_eq_some_iff.1 hi
  obtain ⟨h2, rfl⟩ := List.getElem?_eq_some_iff.1 hj
  rw [List.nodup_iff_pairwise_ne, List.pairwise_iff_getElem] at hn
  rcases Nat.lt_trichotomy i j with hlt | rfl | hlt
  · have := hn i j (by simpa using h1) (by simpa using h2) hlt
    simp at this
    exact absurd h this
  · rfl
  · have := hn j i (by simpa using h2) (by simpa using h1) hlt
    simp at this
    exact absurd h.symm this
theorem sub_step {id : Bytes} {l : List Lst} {s : Sub} {c : Chg} (hn : (l.map (·.id)).Nodup) (h : SubI id l s) : SubI id (applyL l c) (stepS id s c (applyE l c)) := by
  obtain ⟨hm, hv⟩ := h
  by_cases he : applyE l c = 0
  rotate_left
  · have e1 : applyL l c = l := by unfold applyL; rw [if_pos he]
    have e2 : stepS id s c (applyE l c) = s := by
      unfold stepS
      split
      · rw [if_neg (fun q => he q.1), if_neg (fun q => he q.1)]
        have : (applyE l c == 0) = false := by simpa using he
        rw [this, Bool.and_false, Bool.or_false]
      · rfl
    rw [e1, e2]
    exact ⟨hm, hv⟩
  have hf := applyE_formed he
  rcases hp : placeOf c.id l with _ | j
  · have e1 : applyL l c = l ++ [⟨c.eid, c.nv, c.ns, c.at_, -1, false⟩] := by unfold applyL; rw [if_neg (by simpa using he), hp]
    have hk := applyE_none he hp
    have h2 := (formed_new hf hk).1
    rw [e1, he]
    by_cases hc : c.id = id
    · have hs : s.void = false := by
        rcases hq : s.void with _ | _
        · rfl
        · exact absurd (hv hq) (by rw [← hc]; exact place_none hp)
      unfold stepS
      rw [if_pos hc, if_pos ⟨rfl, .inl hk⟩, if_pos ⟨rfl, .inl hk⟩, hs, hk]
      refine ⟨fun x hx hxi => ?_, fun q => by simp at q⟩
      rcases List.mem_append.1 hx with hx | hx
      · exact absurd (List.mem_map.2 ⟨x, hx, hxi.trans hc.symm⟩) (place_none hp)
      · simp at hx
        subst hx
        exact ⟨rfl, rfl, fun q => by simp at q⟩
    · unfold stepS
      rw [if_neg hc]
      refine ⟨fun x hx hxi => ?_, fun q => by rw [List.map_append]; exact List.mem_append_left _ (hv q)⟩
      rcases List.mem_append.1 hx with hx | hx
      · exact hm x hx hxi
      · simp at hx
        subst hx
        exact absurd (h2.symm.trans hxi) hc
  · obtain ⟨x, hx, hxi⟩ := place_some hp
    have e1 : applyL l c = l.set j (turned x c) := by unfold applyL; rw [if_neg (by simpa using he), hp]; simp only [hx]
    obtain ⟨k1, hvd, -⟩ := applyE_some he hp hx
    have hti := turned_same hf hxi
    have hids := ids_set hx (hti.trans hxi.symm)
    have hjl : j < l.length := (List.getElem?_eq_some_iff.1 hx).1
    have hmem : ∀ y, y ∈ l.set j (turned x c) → y = turned x c ∨ (y ∈ l ∧ y.id ≠ c.id) := fun y hy => by
      obtain ⟨i, hi⟩ := List.getElem?_of_mem hy
      by_cases hij : j = i
      · subst hij
        rw [List.getElem?_set_self hjl] at hi
        exact .inl (Option.some.inj hi).symm
      · rw [List.getElem?_set_ne hij] at hi
        exact .inr ⟨List.mem_of_getElem? hi, fun q => hij (nodup_at hn hx hi (hxi.trans q.symm))⟩
    rw [e1, he]
    by_cases hc : c.id = id
    · obtain ⟨hx1, hx2, hx3⟩ := hm x (List.mem_of_getElem? hx) (hxi.trans hc)
      have hs : s.void = false := by
        rcases hq : s.void with _ | _
        · rfl
        · rw [hx3 hq] at hvd
          cases hvd
      have hT : (turned x c).nv = (if (0 : Int) = 0 ∧ (c.k = 1 ∨ c.k = 3) then c.nv else s.nv) ∧ (turned x c).ns = (if (0 : Int) = 0 ∧ (c.k = 1 ∨ c.k = 3) then c.ns else s.ns) ∧ ((c.k == 4) = true → (turned x c).vd = true) := by
        unfold turned
        rcases formed_kind hf with h | h | h | h
        · exact absurd h k1
        · simp [h, hx1, hx2]
        · simp [h]
        · simp [h, hx1, hx2]
      unfold stepS
      rw [if_pos hc, hs]
      refine ⟨fun y hy hyi => ?_, fun _ => by rw [hids]; exact List.mem_map.2 ⟨x, List.mem_of_getElem? hx, hxi.trans hc⟩⟩
      rcases hmem y hy with rfl | ⟨-, h2⟩
      · exact ⟨hT.1, hT.2.1, fun q => hT.2.2 (by simpa using q)⟩
      · exact absurd (hyi.trans hc.symm) h2
    · unfold stepS
      rw [if_neg hc]
      refine ⟨fun y hy hyi => ?_, fun q => by rw [hids]; exact hv q⟩
      rcases hmem y hy with rfl | ⟨h1, -⟩
      · exact absurd (hti.symm.trans hyi) hc
      · exact hm y h1 hyi
def sub0 : Sub := ⟨.slice none 0 0, [], false⟩
theorem never_law (id : Bytes) (cs : List Chg) (hn : ∀ i, ((runL [] (cs.take i)).map (·.id)).Nodup) (hl : ∀ i, (runL [] (cs.take i)).length < 400) : ∀ i, i ≤ cs.length →
    runL [] ((cs.take i).filter (neC id)) = (runL [] (cs.take i)).filter (neL id) ∧ SubI id (runL [] (cs.take i)) (track id [] sub0 (cs.take i))
  | 0, _ => by
    rw [List.take_zero]
    exact ⟨rfl, by simp [runL], by simp [track, sub0]⟩
  | i + 1, h => by
    obtain ⟨h1, h2⟩ := never_law id cs hn hl i (by omega)
    obtain ⟨c, hc⟩ : ∃ c, cs[i]? = some c := ⟨_, List.getElem?_eq_getElem (by omega)⟩
    have e : cs.take (i + 1) = cs.take i ++ [c] := by
      obtain ⟨hj, rfl⟩ := List.getElem?_eq_some_iff.1 hc
      exact List.take_succ_eq_append_getElem hj
    rw [e, runL_snoc, track_snoc]
    refine ⟨?_, sub_step (hn i) h2⟩
    rw [List.filter_append]
    by_cases hq : c.id = id
    · subst hq
      rw [same_step, List.filter_cons_of_neg (by simp [neC]), List.filter_nil, List.append_nil, h1]
    · rw [List.filter_cons_of_pos (by simp [neC, hq]), List.filter_nil, runL_snoc, h1, other_step hq (hl i)]
theorem runE_at : ∀ (cs : List Chg) (l : List Lst) (i : Nat) (c : Chg), cs[i]? = some c → (runE l cs)[i]? = some (applyE (runL l (cs.take i)) c)
  | [], l, i, c, h => by simp at h
  | d :: r, l, 0, c, h => by
    simp at h
    subst h
    rfl
  | d :: r, l, i + 1, c, h => by
    have := runE_at r (applyL l d) i c (by simpa using h)
    simpa [runE, runL] using this
end Go.Proofs.YtckocgkndbdhcaaGreatDoor
