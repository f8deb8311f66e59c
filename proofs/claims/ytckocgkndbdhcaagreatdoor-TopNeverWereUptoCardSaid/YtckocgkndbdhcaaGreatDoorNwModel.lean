/-
  A run of changes, in plain Lean; the lists that it makes are proper.
-/
import Derived.Test.YtckocgkndbdhcaaGreatDoorNwApp2
namespace Go.Cz
open Go.RowKit
theorem Has.over {w0 w w' : World} (hb : Below w.heap.size w w') {ps : List Piece} (h : Has w0 w ps []) (h0 : w0.heap.size ≤ w.heap.size) : ∀ {qs : List Piece} {U : List Nat}, (∀ k ∈ U, w.heap.size ≤ k) → Has w w' qs U → Has w0 w' (qs ++ ps) U
  | [], U, hu, _ => (h.mono (V := U) fun k hk => .inr (hu k hk)).keep (T := []) (Mod.ofBelow hb []) (by simp)
  | Q :: qs, U, hu, ⟨S, h1, h2, h3⟩ => ⟨S, h1, fun k hk => ⟨Nat.le_trans h0 (h2 k hk).1, (h2 k hk).2⟩, Has.over hb h h0 (fun k hk => by
      rcases List.mem_append.1 hk with hk | hk
      · exact (h2 k hk).1
      · exact hu k hk) h3⟩
/-- What a call owns, above what was owned before it. -/
theorem Owns.over {w0 w w' : World} {ps qs : List Piece} (h : Owns w0 w ps) (h2 : Owns w w' qs) : Owns w0 w' (qs ++ ps) :=
  ⟨h.1.trans (h2.1.mono h.1.size), Has.over h2.1 h.2 h.1.size (by simp) h2.2⟩
end Go.Cz
namespace Go.Cz.Nw
open Go.Cz.Lx
def runL (l : List Lst) (cs : List Chg) : List Lst := cs.foldl applyL l
def runE : List Lst → List Chg → List Int
  | _, [] => []
  | l, c :: r => applyE l c :: runE (applyL l c) r
theorem runL_snoc (l : List Lst) (cs : List Chg) (c : Chg) : runL l (cs ++ [c]) = applyL (runL l cs) c := by simp [runL]
theorem runE_snoc : ∀ (l : List Lst) (cs : List Chg) (c : Chg), runE l (cs ++ [c]) = runE l cs ++ [applyE (runL l cs) c]
  | l, [], c => rfl
  | l, d :: r, c => by
    have := runE_snoc (applyL l d) r c
    simp only [List.cons_append, runE, this]
    rfl
theorem runE_len : ∀ (l : List Lst) (cs : List Chg), (runE l cs).length = cs.length
  | _, [] => rfl
  | l, c :: r => by simp [runE, runE_len]
/-- A row of changes that lies in a world. -/
def IsChgs (w : World) (v : Value) (cs : List Chg) : Prop := ∃ y n, v = .slice y cs.length n ∧ ∀ (j : Nat) (c : Chg), cs[j]? = some c → ∃ g o, y = some ⟨g, o, none⟩ ∧ g < w.heap.size ∧
  w.cell? ⟨g, o + j * 5, none⟩ = some (.int .i64 c.k) ∧ w.cell? ⟨g, o + j * 5 + 1, none⟩ = some (.string (bs c.id)) ∧ w.cell? ⟨g, o + j * 5 + 2, none⟩ = some (.string (bs c.eid)) ∧ w.cell? ⟨g, o + j * 5 + 3, none⟩ = some c.nv ∧ w.cell? ⟨g, o + j * 5 + 4, none⟩ = some (.int .i64 c.at_) ∧ IsNames w c.nv c.ns
end Go.Cz.Nw
namespace Go.Proofs.YtckocgkndbdhcaaGreatDoor
open Go.RowKit Go.Cz Go.Cz.Nw Go.Cz.Lx
theorem chgs_below {w w' : World} {v : Value} {cs : List Chg} (h : IsChgs w v cs) (hb : Below w.heap.size w w') : IsChgs w' v cs := by
  obtain ⟨y, c, rfl, h⟩ := h
  refine ⟨y, c, rfl, fun j x hx => ?_⟩
  obtain ⟨g, o, h1, h2, h3, h4, h5, h6, h7, h8⟩ := h j x hx
  exact ⟨g, o, h1, Nat.lt_of_lt_of_le h2 hb.size, old_cell hb h3, old_cell hb h4, old_cell hb h5, old_cell hb h6, old_cell hb h7, names_below h8 hb⟩
theorem formed_new {c : Chg} (h : formedB c = true) (h1 : c.k = 1) : c.eid = c.id ∧ propB c.eid c.ns = true ∧ instB c.at_ = true := by
  unfold formedB at h
  split at h
  · cases h
  · simp only [Bool.and_eq_true, beq_iff_eq] at h
    exact ⟨h.1, h.2.1, h.2.2⟩
theorem formed_end {c : Chg} (h : formedB c = true) (h1 : c.k = 2) : instB c.at_ = true := by
  unfold formedB at h
  split at h
  · cases h
  · rw [if_neg (by omega)] at h
    simp only [Bool.and_eq_true, beq_iff_eq] at h
    exact h.2.2
theorem formed_turn {c : Chg} (h : formedB c = true) (h1 : c.k = 3) : c.eid = c.id ∧ propB c.eid c.ns = true := by
  unfold formedB at h
  split at h
  · cases h
  · rw [if_neg (by omega), if_neg (by omega)] at h
    simp only [Bool.and_eq_true, beq_iff_eq] at h
    exact ⟨h.1, h.2.1⟩
theorem formed_kind {c : Chg} (h : formedB c = true) : c.k = 1 ∨ c.k = 2 ∨ c.k = 3 ∨ c.k = 4 := by
  unfold formedB at h
  split at h
  · cases h
  · omega
theorem applyE_formed {l : List Lst} {c : Chg} (h : applyE l c = 0) : formedB c = true := by
  unfold applyE at h
  split at h
  · cases h
  · next hc => simpa using hc
theorem applyE_none {l : List Lst} {c : Chg} (h : applyE l c = 0) (hp : placeOf c.id l = none) : c.k = 1 := by
  have hf := applyE_formed h
  unfold applyE at h
  rw [if_neg (by rw [hf]; simp)] at h
  simp only [hp] at h
  by_cases h1 : c.k = 1
  · exact h1
  · rw [if_neg h1] at h
    cases h
theorem applyE_some {l : List Lst} {c : Chg} {j : Nat} {x : Lst} (h : applyE l c = 0) (hp : placeOf c.id l = some j) (hx : l[j]? = some x) : c.k ≠ 1 ∧ x.vd = false ∧ (c.k = 2 → x.til = -1 ∧ x.fr < c.at_) := by
  have hf := applyE_formed h
  unfold applyE at h
  rw [if_neg (by rw [hf]; simp)] at h
  simp only [hp] at h
  by_cases h1 : c.k = 1
  · rw [if_pos h1] at h
    cases h
  · rw [if_neg h1] at h
    simp only [hx] at h
    refine ⟨h1, ?_⟩
    by_cases h2 : (x.vd || (c.k == 2 && x.til != -1)) = true
    · rw [if_pos h2] at h
      cases h
    · rw [if_neg h2] at h
      by_cases h3 : (c.k == 2 && decide (c.at_ ≤ x.fr)) = true
      · rw [if_pos h3] at h
        cases h
      · simp only [Bool.or_eq_true, Bool.and_eq_true, not_or, Bool.not_eq_true, beq_iff_eq, bne_iff_ne, not_and, Decidable.not_not, decide_eq_true_eq, ne_eq] at h2 h3
        exact ⟨h2.1, fun hk => ⟨by simpa using h2.2 hk, by have := h3 hk; omega⟩⟩
theorem turned_id {l : List Lst} {c : Chg} {j : Nat} {x : Lst} (h : applyE l c = 0) (hp : placeOf c.id l = some j) (hx : l[j]? = some x) : (turned x c).id = x.id := by
  obtain ⟨x', h1, h2⟩ := place_some hp
  rw [hx] at h1
  cases h1
  unfold turned
  split
  · rfl
  · split
    · next h3 => show c.eid = _; rw [(formed_turn (applyE_formed h) h3).1, h2]
    · rfl
theorem ids_set {l : List Lst} {j : Nat} {x y : Lst} (hx : l[j]? = some x) (h : y.id = x.id) : (l.set j y).map (·.id) = l.map (·.id) := by
  rw [List.map_set]
  apply List.ext_getElem?
  intro i
  rw [List.getElem?_set]
  split
  · next e =>
    subst e
    have hj : j < l.length := (List.getElem?_eq_some_iff.1 hx).1
    rw [if_pos (by simpa using hj), List.getElem?_map, hx, h]
    rfl
  · rfl
theorem listok_apply {w : World} {l : List Lst} {c : Chg} (h : ListOk w l) (hlen : l.length < 400) (hv : IsNames w c.nv c.ns) (hok : ChgOk c) : ListOk w (applyL l c) ∧ (applyL l c).length ≤ l.length + 1 := by
  unfold applyL
  by_cases he : applyE l c = 0
  · rw [if_neg (by simpa using he)]
    have hf := applyE_formed he
    rcases hp : placeOf c.id l with _ | j
    · obtain ⟨h1, h2, h3⟩ := formed_new hf (applyE_none he hp)
      dsimp only
      refine ⟨⟨fun x hx => ?_, ?_, by simp; omega⟩, by simp⟩
      · rcases List.mem_append.1 hx with hx | hx
        · exact h.each x hx
        · simp at hx
          subst hx
          exact ⟨h2, h3, .inl rfl, hok.eid, hok.ns, hv⟩
      · rw [List.map_append, List.nodup_append]
        refine ⟨h.ids, by simp, fun a ha b hb => ?_⟩
        simp at hb
        subst hb
        rintro rfl
        rw [h1] at ha
        exact place_none hp ha
    · obtain ⟨x, hx, hxi⟩ := place_some hp
      dsimp only
      simp only [hx]
      have hxo := h.each x (List.mem_of_getElem? hx)
      obtain ⟨k1, hvd, hk2⟩ := applyE_some he hp hx
      refine ⟨⟨fun y hy => ?_, by rw [ids_set hx (turned_id he hp hx)]; exact h.ids, by rw [List.length_set]; omega⟩, by rw [List.length_set]; omega⟩
      rcases List.mem_or_eq_of_mem_set hy with hy | rfl
      · exact h.each y hy
      · unfold turned
        split
        · next k2 =>
          have h2 := hk2 k2
          exact ⟨hxo.prop, hxo.fr, .inr ⟨formed_end hf k2, h2.2⟩, hxo.id, hxo.ns, hxo.nv⟩
        · split
          · next k3 => exact ⟨(formed_turn hf k3).2, hxo.fr, hxo.til, hok.eid, hok.ns, hv⟩
          · exact ⟨hxo.prop, hxo.fr, hxo.til, hxo.id, hxo.ns, hxo.nv⟩
  · rw [if_pos he]
    exact ⟨h, by omega⟩
theorem runL_ok {w : World} : ∀ (cs : List Chg) (l : List Lst), ListOk w l → l.length + cs.length < 400 → (∀ c ∈ cs, ChgOk c ∧ IsNames w c.nv c.ns) → ListOk w (runL l cs) ∧ (runL l cs).length ≤ l.length + cs.length
  | [], l, h, _, _ => ⟨h, Nat.le_refl _⟩
  | c :: r, l, h, hn, hc => by
    obtain ⟨h1, h2⟩ := listok_apply h (by simp at hn; omega) (hc c (by simp)).2 (hc c (by simp)).1
    obtain ⟨h3, h4⟩ := runL_ok r (applyL l c) h1 (by simp at hn; omega) fun d hd => hc d (by simp [hd])
    exact ⟨h3, by rw [List.length_cons]; show (runL (applyL l c) r).length ≤ _; omega⟩
theorem listok_nil (w : World) : ListOk w [] := ⟨by simp, by simp, by simp⟩
end Go.Proofs.YtckocgkndbdhcaaGreatDoor
