/-
  Plain laws of verdicts.
-/
import Derived.Test.YtakadfdnhlfijaaGreatDoorVdModel
namespace Go.Cz.Vd
set_option linter.unusedVariables false
set_option linter.unusedSimpArgs false
open Go.Cz.Lx Go.Cz.Fo
section
variable {s : Sc} {l : List Me} {m : Me} {cov : List Bytes}
theorem twice_nodup : ∀ {l : List Bytes}, twice l = false ↔ l.Nodup
  | [] => by simp [twice]
  | a :: r => by rw [twice, Bool.or_eq_false_iff, List.nodup_cons, twice_nodup]; simp
theorem firstM_zero {d : List Fact} : ∀ {l : List Me}, firstM d l = 0 ↔ ∀ m ∈ l, validM d m = 0
  | [] => by simp [firstM]
  | a :: r => by
    rw [firstM]
    by_cases h : validM d a = 0
    · rw [if_neg (by simp [h]), firstM_zero]; simp [h]
    · rw [if_pos h]; simp [h]
theorem check_zero : checkV l s = 0 ↔ properB s = true ∧ l.length ≤ 200 ∧ (∀ m ∈ l, validM s.dom m = 0) ∧ (l.map Me.id).Nodup := by
  unfold checkV
  by_cases h1 : properB s = false
  · rw [if_pos h1]; simp [h1]
  rw [if_neg h1]
  have h1' : properB s = true := by simpa using h1
  by_cases h2 : 200 < l.length
  · rw [if_pos h2]; simp; omega
  rw [if_neg h2]
  by_cases h3 : firstM s.dom l = 0
  · rw [if_neg (by simp [h3])]
    by_cases h4 : twice (l.map Me.id) = true
    · rw [if_pos h4]
      have : ¬ (l.map Me.id).Nodup := fun h => by rw [twice_nodup.2 h] at h4; cases h4
      simp [this]
    · rw [if_neg h4]
      have h5 : twice (l.map Me.id) = false := by simpa using h4
      exact ⟨fun _ => ⟨h1', by omega, firstM_zero.1 h3, twice_nodup.1 h5⟩, fun _ => rfl⟩
  · rw [if_pos h3]
    exact ⟨fun h => absurd h h3, fun h => absurd (firstM_zero.2 h.2.2.1) h3⟩
theorem mem_counting {k : Int} : m ∈ counting s k l ↔ m ∈ l ∧ m.kind = k ∧ countsB s m = true := by
  unfold counting
  rw [List.mem_filter, Bool.and_eq_true, decide_eq_true_eq]
theorem mem_exempts {a t : Bytes} : (a, t) ∈ exempts s l ↔ ∃ k ∈ l, k.kind = 2 ∧ countsB s k = true ∧ k.auth = a ∧ k.target = t := by
  unfold exempts
  simp only [List.mem_map, mem_counting, Prod.mk.injEq]
  constructor
  · rintro ⟨k, ⟨h1, h2, h3⟩, h4, h5⟩; exact ⟨k, h1, h2, h3, h4, h5⟩
  · rintro ⟨k, h1, h2, h3, h4, h5⟩; exact ⟨k, ⟨h1, h2, h3⟩, h4, h5⟩
theorem mem_forbs : m ∈ forbs s l ↔ m ∈ l ∧ m.kind = 1 ∧ countsB s m = true ∧ (m.auth, m.id) ∉ exempts s l := by
  unfold forbs
  rw [List.mem_filter, mem_counting]
  simp
  constructor
  · rintro ⟨⟨h1, h2, h3⟩, h4⟩; exact ⟨h1, h2, h3, h4⟩
  · rintro ⟨h1, h2, h3, h4⟩; exact ⟨⟨h1, h2, h3⟩, h4⟩
theorem left_nil : leftM s l [] = forbs s l := by
  unfold leftM
  rw [List.filter_eq_self]
  simp
/-! Two lists with the same measures. -/
theorem counting_reverse {k : Int} : counting s k l.reverse = (counting s k l).reverse := by unfold counting; rw [List.filter_reverse]
theorem exempts_reverse : exempts s l.reverse = (exempts s l).reverse := by unfold exempts; rw [counting_reverse, List.map_reverse]
theorem contains_reverse {α : Type} [BEq α] [LawfulBEq α] {a : α} {l : List α} : l.reverse.contains a = l.contains a := by
  rw [Bool.eq_iff_iff, List.contains_iff_mem, List.contains_iff_mem, List.mem_reverse]
theorem forbs_reverse : forbs s l.reverse = (forbs s l).reverse := by
  unfold forbs
  rw [counting_reverse, List.filter_reverse, exempts_reverse]
  congr 1
  exact List.filter_congr fun m _ => by rw [contains_reverse]
theorem left_reverse : leftM s l.reverse cov = (leftM s l cov).reverse := by unfold leftM; rw [forbs_reverse, List.filter_reverse]
theorem blocks_reverse : blocksM s l.reverse cov = (blocksM s l cov).reverse := by
  unfold blocksM
  rw [counting_reverse, List.filter_reverse, left_reverse, List.map_reverse]
  congr 1
  exact List.filter_congr fun m _ => by rw [contains_reverse]
theorem verdict_reverse (a b c : List Bytes) : verdictOf a.reverse b.reverse c.reverse = ⟨(verdictOf a b c).kind, (verdictOf a b c).forbids.reverse, (verdictOf a b c).blocks.reverse⟩ := by
  unfold verdictOf
  simp only [List.reverse_eq_nil_iff]
  repeat' split
  all_goals simp
theorem check_reverse : checkV l.reverse s = 0 ↔ checkV l s = 0 := by
  rw [check_zero, check_zero, List.map_reverse, (List.reverse_perm _).nodup_iff]
  simp
/-- The measures in reverse order. -/
theorem order_law : ((licensedV l s cov).2 ≠ 0 → (licensedV l.reverse s cov).2 ≠ 0) ∧ ((licensedV l s cov).2 = 0 → (licensedV l.reverse s cov).2 = 0 ∧
    (licensedV l s cov).1 = ⟨(licensedV l.reverse s cov).1.kind, (licensedV l.reverse s cov).1.forbids.reverse, (licensedV l.reverse s cov).1.blocks.reverse⟩) := by
  unfold licensedV
  by_cases h : checkV l s = 0
  · have h2 := check_reverse.2 h
    rw [if_neg (by simp [h]), if_neg (by simp [h2])]
    refine ⟨fun h => absurd rfl h, fun _ => ⟨rfl, ?_⟩⟩
    rw [forbs_reverse, left_reverse, blocks_reverse, List.map_reverse, List.map_reverse, List.map_reverse, verdict_reverse]
    simp
  · have h2 : checkV l.reverse s ≠ 0 := fun e => h (check_reverse.1 e)
    rw [if_pos h, if_pos h2]
    exact ⟨fun _ => h2, fun e => absurd e h⟩
/-! One more measure. -/
theorem counting_more {k : Int} : counting s k (l ++ [m]) = counting s k l ++ (if m.kind = k ∧ countsB s m = true then [m] else []) := by
  unfold counting
  rw [List.filter_append]
  congr 1
  by_cases h : m.kind = k ∧ countsB s m = true
  · rw [if_pos h]; simp [h.1, h.2]
  · rw [if_neg h, List.filter_cons_of_neg, List.filter_nil]
    rw [Bool.and_eq_true, decide_eq_true_eq]
    exact h
theorem decide_forbids (h : (decideV l s).2 = 0) : checkV l s = 0 ∧ (decideV l s).1.forbids = (forbs s l).map Me.id := by
  unfold decideV licensedV at h ⊢
  by_cases h0 : checkV l s = 0
  · rw [if_neg (by simp [h0])]
    refine ⟨h0, ?_⟩
    rw [left_nil]
    unfold verdictOf
    by_cases h1 : (forbs s l).map Me.id = []
    · rw [if_pos h1, h1]
    · rw [if_neg h1, if_neg h1]
      split <;> rfl
  · rw [if_pos h0] at h
    exact absurd h h0
theorem further_check : checkV l s ≠ 0 → checkV (l ++ [m]) s ≠ 0 := by
  intro h e
  rw [check_zero] at e
  refine h (check_zero.2 ⟨e.1, ?_, fun q hq => e.2.2.1 q (by simp [hq]), ?_⟩)
  · have := e.2.1
    simp at this
    omega
  · have := e.2.2.2
    rw [List.map_append] at this
    exact (List.nodup_append.1 this).1
/-- A further measure. -/
theorem further_law : ((decideV l s).2 ≠ 0 → (decideV (l ++ [m]) s).2 ≠ 0) ∧ ((decideV l s).2 = 0 → (decideV (l ++ [m]) s).2 = 0 →
    (countsB s m = false → (decideV (l ++ [m]) s).1 = (decideV l s).1) ∧
    (m.kind ≠ 2 → ∀ x ∈ (decideV l s).1.forbids, x ∈ (decideV (l ++ [m]) s).1.forbids) ∧
    (m.kind ≠ 1 → ∀ x ∈ (decideV (l ++ [m]) s).1.forbids, x ∈ (decideV l s).1.forbids)) := by
  refine ⟨fun h => ?_, fun h1 h2 => ?_⟩
  · have h0 : checkV l s ≠ 0 := fun e => h (by unfold decideV licensedV; rw [if_neg (by simp [e])])
    have h3 := further_check (m := m) h0
    unfold decideV licensedV
    rw [if_pos h3]
    exact h3
  · obtain ⟨c1, f1⟩ := decide_forbids h1
    obtain ⟨c2, f2⟩ := decide_forbids h2
    refine ⟨fun hc => ?_, fun hk x hx => ?_, fun hk x hx => ?_⟩
    · have e : ∀ k, counting s k (l ++ [m]) = counting s k l := fun k => by rw [counting_more, if_neg (by rw [hc]; simp), List.append_nil]
      have e1 : exempts s (l ++ [m]) = exempts s l := by unfold exempts; rw [e]
      have e2 : forbs s (l ++ [m]) = forbs s l := by unfold forbs; rw [e, e1]
      have e3 : leftM s (l ++ [m]) [] = leftM s l [] := by unfold leftM; rw [e2]
      have e4 : blocksM s (l ++ [m]) [] = blocksM s l [] := by unfold blocksM; rw [e, e3]
      unfold decideV licensedV
      have c1' : ¬ checkV l s ≠ 0 := by simp [c1]
      have c2' : ¬ checkV (l ++ [m]) s ≠ 0 := by simp [c2]
      rw [if_neg c1', if_neg c2', e2, e3, e4]
    · rw [f1] at hx
      rw [f2]
      obtain ⟨q, hq, rfl⟩ := List.mem_map.1 hx
      refine List.mem_map.2 ⟨q, ?_, rfl⟩
      rw [mem_forbs] at hq ⊢
      refine ⟨by simp [hq.1], hq.2.1, hq.2.2.1, fun he => hq.2.2.2 ?_⟩
      rw [mem_exempts] at he ⊢
      obtain ⟨k, hk1, hk2, hk3⟩ := he
      rcases List.mem_append.1 hk1 with hk1 | hk1
      · exact ⟨k, hk1, hk2, hk3⟩
      · obtain rfl : k = m := by simpa using hk1
        exact absurd hk2 hk
    · rw [f2] at hx
      rw [f1]
      obtain ⟨q, hq, rfl⟩ := List.mem_map.1 hx
      refine List.mem_map.2 ⟨q, ?_, rfl⟩
      rw [mem_forbs] at hq ⊢
      have hql : q ∈ l := by
        rcases List.mem_append.1 hq.1 with h | h
        · exact h
        · obtain rfl : q = m := by simpa using h
          exact absurd hq.2.1 hk
      refine ⟨hql, hq.2.1, hq.2.2.1, fun he => hq.2.2.2 ?_⟩
      rw [mem_exempts] at he ⊢
      obtain ⟨k, hk1, hk2⟩ := he
      exact ⟨k, by simp [hk1], hk2⟩
/-! Licences. -/
theorem left_map : (leftM s l cov).map Me.id = ((forbs s l).map Me.id).filter fun x => !cov.contains x := by
  unfold leftM
  rw [List.filter_map]
  rfl
theorem left_all : leftM s l ((forbs s l).map Me.id) = [] := by
  unfold leftM
  rw [List.filter_eq_nil_iff]
  intro m hm
  simp
  exact ⟨m, hm, rfl⟩
theorem licences_law (h : (decideV l s).2 = 0) : (licensedV l s (decideV l s).1.forbids).2 = 0 ∧ (licensedV l s cov).2 = 0 ∧ (licensedV l s (decideV l s).1.forbids).1.blocks = [] ∧ (licensedV l s (decideV l s).1.forbids).1.forbids = (decideV l s).1.forbids ∧
    ((decideV l s).1.kind = 1 ↔ (licensedV l s (decideV l s).1.forbids).1.kind = 1) ∧ ((decideV l s).1.kind ≠ 1 ↔ (licensedV l s (decideV l s).1.forbids).1.kind = 4) ∧
    (((decideV l s).1.forbids.filter fun x => !cov.contains x).length = (decideV l s).1.forbids.length → (licensedV l s cov).1 = (decideV l s).1) ∧
    (((decideV l s).1.forbids.filter fun x => !cov.contains x).length ≠ (decideV l s).1.forbids.length → ((decideV l s).1.forbids.filter fun x => !cov.contains x).length = 0 → (licensedV l s cov).1.kind = 4 ∧ (licensedV l s cov).1.forbids = (decideV l s).1.forbids) ∧
    (((decideV l s).1.forbids.filter fun x => !cov.contains x).length ≠ (decideV l s).1.forbids.length → ((decideV l s).1.forbids.filter fun x => !cov.contains x).length ≠ 0 → (∀ x ∈ (licensedV l s cov).1.blocks, x ∈ (decideV l s).1.blocks) ∧
      (licensedV l s cov).1.forbids = ((decideV l s).1.forbids.filter fun x => !cov.contains x) ∧ ((licensedV l s cov).1.kind = 3 ↔ 0 < (licensedV l s cov).1.blocks.length) ∧ ((licensedV l s cov).1.kind = 3 ∨ (licensedV l s cov).1.kind = 2)) := by
  obtain ⟨c, f⟩ := decide_forbids h
  have c' : ¬ checkV l s ≠ 0 := by simp [c]
  have hl : ∀ cv, licensedV l s cv = (verdictOf ((forbs s l).map Me.id) ((leftM s l cv).map Me.id) ((blocksM s l cv).map Me.id), 0) := fun cv => by
    unfold licensedV; rw [if_neg c']
  rw [f]
  have hd : decideV l s = (verdictOf ((forbs s l).map Me.id) ((forbs s l).map Me.id) ((blocksM s l []).map Me.id), 0) := by
    unfold decideV; rw [hl, left_nil]
  rw [hl, hl cov, hd, left_all, ← left_map]
  obtain ⟨A, hA⟩ : ∃ A, A = (forbs s l).map Me.id := ⟨_, rfl⟩
  obtain ⟨L, hL⟩ : ∃ L, L = (leftM s l cov).map Me.id := ⟨_, rfl⟩
  have hLA : L = A.filter fun x => !cov.contains x := by rw [hL, hA, left_map]
  rw [← hA, ← hL]
  simp only [List.map_nil]
  refine ⟨trivial, trivial, ?_, ?_, ?_, ?_, ?_, ?_, ?_⟩
  · unfold verdictOf
    by_cases h1 : A = []
    · rw [if_pos h1]
    · rw [if_neg h1, if_pos rfl]
  · unfold verdictOf
    by_cases h1 : A = []
    · rw [if_pos h1, h1]
    · rw [if_neg h1, if_pos rfl]
  · unfold verdictOf
    by_cases h1 : A = []
    · rw [if_pos h1, if_pos h1]
    · rw [if_neg h1, if_neg h1, if_neg h1, if_pos rfl]
      split <;> simp
  · unfold verdictOf
    by_cases h1 : A = []
    · rw [if_pos h1, if_pos h1]; simp
    · rw [if_neg h1, if_neg h1, if_neg h1, if_pos rfl]
      split <;> simp
  · intro hn
    have e : L = A := by
      rw [hLA] at hn ⊢
      exact List.filter_eq_self.2 (List.length_filter_eq_length_iff.1 hn)
    have e2 : leftM s l cov = forbs s l := by
      unfold leftM
      rw [List.filter_eq_self]
      intro m hm
      have := List.length_filter_eq_length_iff.1 (by rw [hLA] at hn; exact hn) m.id (by rw [hA]; exact List.mem_map.2 ⟨m, hm, rfl⟩)
      exact this
    have e3 : blocksM s l cov = blocksM s l [] := by unfold blocksM; rw [e2, left_nil]
    rw [e, e3]
  · intro hn h0
    have e : L = [] := List.length_eq_zero_iff.1 h0
    have hA0 : A ≠ [] := fun h => hn (by rw [e, h])
    unfold verdictOf
    rw [if_neg hA0, if_pos e]
    exact ⟨rfl, rfl⟩
  · intro hn h0
    have hL0 : L ≠ [] := fun h => h0 (by rw [h]; rfl)
    have hA0 : A ≠ [] := fun h => hL0 (by rw [hLA, h]; rfl)
    have hB : ∀ x ∈ (blocksM s l cov).map Me.id, x ∈ (blocksM s l []).map Me.id := fun x hx => by
      obtain ⟨m, hm, rfl⟩ := List.mem_map.1 hx
      refine List.mem_map.2 ⟨m, ?_, rfl⟩
      unfold blocksM at hm ⊢
      rw [List.mem_filter] at hm ⊢
      refine ⟨hm.1, ?_⟩
      have h2 := hm.2
      rw [List.contains_iff_mem] at h2 ⊢
      obtain ⟨q, hq, he⟩ := List.mem_map.1 h2
      refine List.mem_map.2 ⟨q, ?_, he⟩
      rw [left_nil]
      unfold leftM at hq
      exact (List.mem_filter.1 hq).1
    unfold verdictOf
    rw [if_neg hA0, if_neg hL0, if_neg hA0, if_neg hA0]
    by_cases h1 : (blocksM s l cov).map Me.id = []
    · rw [if_pos h1]
      exact ⟨by simp, rfl, by simp, by simp⟩
    · rw [if_neg h1]
      have h2 : (blocksM s l []).map Me.id ≠ [] := fun h => by
        obtain ⟨x, r, hx⟩ := List.exists_cons_of_ne_nil h1
        have := hB x (by rw [hx]; simp)
        rw [h] at this
        simp at this
      rw [if_neg h2]
      exact ⟨hB, rfl, by simp; exact List.length_pos_iff.2 (by simpa using h1), by simp⟩
end
end Go.Cz.Vd
