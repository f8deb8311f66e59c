/-
  What a verdict means.
-/
import Derived.Test.YtakadfdnhlfijaaGreatDoorVdLaws
namespace Go.Cz.Vd
set_option linter.unusedVariables false
set_option linter.unusedSimpArgs false
open Go.Cz.Lx Go.Cz.Fo
def exB (l : List Me) (s : Sc) (m : Me) : Bool := l.any fun k => decide (k.kind = 2) && (decide (k.target = m.id) && (decide (k.auth = m.auth) && countsB s k))
def agB (l : List Me) (fs : List Bytes) (m : Me) : Bool := l.any fun k => decide (k.auth = m.target) && (decide (k.kind = 1) && fs.contains k.id)
def fB (l : List Me) (s : Sc) (m : Me) : Bool := decide (m.kind = 1) && (countsB s m && !exB l s m)
def bB (l : List Me) (s : Sc) (fs : List Bytes) (m : Me) : Bool := decide (m.kind = 3) && (countsB s m && agB l fs m)
section
variable {s : Sc} {l : List Me} {m : Me}
theorem exB_iff : exB l s m = (exempts s l).contains (m.auth, m.id) := by
  rw [Bool.eq_iff_iff, List.contains_iff_mem, mem_exempts]
  unfold exB
  simp only [List.any_eq_true, Bool.and_eq_true, decide_eq_true_eq]
  constructor
  · rintro ⟨k, h1, h2, h3, h4, h5⟩; exact ⟨k, h1, h2, h5, h4, h3⟩
  · rintro ⟨k, h1, h2, h3, h4, h5⟩; exact ⟨k, h1, h2, h5, h4, h3⟩
theorem forbs_filter : forbs s l = l.filter (fB l s) := by
  unfold forbs counting
  rw [List.filter_filter]
  refine List.filter_congr fun m _ => ?_
  unfold fB
  rw [exB_iff]
  cases decide (m.kind = 1) <;> cases countsB s m <;> simp
/-- Two measures with one id are one. -/
theorem id_one : ∀ {l : List Me}, (l.map Me.id).Nodup → ∀ {a b : Me}, a ∈ l → b ∈ l → a.id = b.id → a = b
  | [], _, a, b, h, _, _ => by simp at h
  | c :: r, hn, a, b, ha, hb, e => by
    rw [List.map_cons, List.nodup_cons] at hn
    rcases List.mem_cons.1 ha with rfl | ha'
    · rcases List.mem_cons.1 hb with rfl | hb'
      · rfl
      · exact absurd (List.mem_map.2 ⟨b, hb', e.symm⟩) hn.1
    · rcases List.mem_cons.1 hb with rfl | hb'
      · exact absurd (List.mem_map.2 ⟨a, ha', e⟩) hn.1
      · exact id_one hn.2 ha' hb' e
theorem contains_id {q : Me → Bool} (hn : (l.map Me.id).Nodup) (hm : m ∈ l) : ((l.filter q).map Me.id).contains m.id = q m := by
  rw [Bool.eq_iff_iff, List.contains_iff_mem, List.mem_map]
  constructor
  · rintro ⟨k, hk, e⟩
    obtain ⟨h1, h2⟩ := List.mem_filter.1 hk
    rw [← id_one hn h1 hm e]
    exact h2
  · exact fun h => ⟨m, List.mem_filter.2 ⟨hm, h⟩, rfl⟩
theorem blocks_filter (hn : (l.map Me.id).Nodup) : blocksM s l [] = l.filter (bB l s ((forbs s l).map Me.id)) := by
  unfold blocksM counting
  rw [List.filter_filter, left_nil]
  refine List.filter_congr fun m hm => ?_
  have h : ((forbs s l).map Me.auth).contains m.target = agB l ((forbs s l).map Me.id) m := by
    rw [Bool.eq_iff_iff, List.contains_iff_mem, List.mem_map]
    unfold agB
    simp only [List.any_eq_true, Bool.and_eq_true, decide_eq_true_eq]
    constructor
    · rintro ⟨k, hk, e⟩
      have h1 := mem_forbs.1 hk
      exact ⟨k, h1.1, e, h1.2.1, by rw [List.contains_iff_mem]; exact List.mem_map.2 ⟨k, hk, rfl⟩⟩
    · rintro ⟨k, hk, e, h1, h2⟩
      rw [forbs_filter, contains_id hn hk] at h2
      exact ⟨k, by rw [forbs_filter]; exact List.mem_filter.2 ⟨hk, h2⟩, e⟩
  rw [h]
  unfold bB
  cases decide (m.kind = 3) <;> cases countsB s m <;> simp
/-- What a verdict says of each measure. -/
theorem means_law (h : (decideV l s).2 = 0) : (∀ m ∈ l, fB l s m = (decideV l s).1.forbids.contains m.id ∧ bB l s (decideV l s).1.forbids m = (decideV l s).1.blocks.contains m.id) ∧
    (decideV l s).1.forbids.length = (l.filter (fB l s)).length ∧ (decideV l s).1.blocks.length = (l.filter (bB l s (decideV l s).1.forbids)).length ∧
    (decideV l s).1.kind = if 0 < (l.filter (bB l s (decideV l s).1.forbids)).length then 3 else if 0 < (l.filter (fB l s)).length then 2 else 1 := by
  obtain ⟨c, f⟩ := decide_forbids h
  obtain ⟨-, -, -, hn⟩ := check_zero.1 c
  have c' : ¬ checkV l s ≠ 0 := by simp [c]
  have hd : decideV l s = (verdictOf ((forbs s l).map Me.id) ((forbs s l).map Me.id) ((blocksM s l []).map Me.id), 0) := by
    unfold decideV licensedV; rw [if_neg c', left_nil]
  have hb : (decideV l s).1.blocks = (blocksM s l []).map Me.id := by
    rw [hd]
    unfold verdictOf
    by_cases h1 : (forbs s l).map Me.id = []
    · rw [if_pos h1]
      have h2 : forbs s l = [] := by simpa using h1
      unfold blocksM
      rw [left_nil, h2]
      simp
    · rw [if_neg h1, if_neg h1]
      split
      · rename_i h2; rw [h2]
      · rfl
  rw [f, hb, blocks_filter hn]
  refine ⟨fun m hm => ⟨?_, (contains_id hn hm).symm⟩, by rw [List.length_map, forbs_filter], by rw [List.length_map], ?_⟩
  · rw [forbs_filter, contains_id hn hm]
  · rw [hd, blocks_filter hn]
    unfold verdictOf
    rw [forbs_filter]
    obtain ⟨A, hA⟩ : ∃ A, A = l.filter (fB l s) := ⟨_, rfl⟩
    have hAB : A = [] → l.filter (bB l s (A.map Me.id)) = [] := fun h0 => by
      rw [h0]
      rw [List.filter_eq_nil_iff]
      intro m hm
      unfold bB agB
      simp
    rw [← hA]
    by_cases h1 : A = []
    · rw [hAB h1, h1]
      simp
    · have h1' : A.map Me.id ≠ [] := by simpa using h1
      rw [if_neg h1', if_neg h1']
      by_cases h2 : l.filter (bB l s (A.map Me.id)) = []
      · rw [h2]
        have : 0 < A.length := List.length_pos_iff.2 h1
        simp [this]
      · have h2' : (l.filter (bB l s (A.map Me.id))).map Me.id ≠ [] := by simpa using h2
        rw [if_neg h2', if_pos (List.length_pos_iff.2 h2)]
end
end Go.Cz.Vd
