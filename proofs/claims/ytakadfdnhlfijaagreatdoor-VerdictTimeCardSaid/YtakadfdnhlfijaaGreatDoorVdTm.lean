/-
  Nothing among the instants that matter comes between: the plain law of the windows' 'WindowConstant'.
  Verdicts at a later instant.
-/
import Derived.Test.YtakadfdnhlfijaaGreatDoorWnA
import Derived.Test.YtakadfdnhlfijaaGreatDoorVdLaws
import Derived.Test.YtakadfdnhlfijaaGreatDoorVdMaps
namespace Go.Cz.Wn
open Go.Cz.Ck
/-- Nothing among the instants that matter comes between. -/
theorem const_law {l : List Shift} {kind fr un wi a b c d : Int} (h0 : 0 ≤ a) (h1 : a ≤ b) (h2 : b ≤ 144001439) (h3 : 0 ≤ c) (h4 : c ≤ d) (h5 : d ≤ 144001439)
    (hn : datedB kind fr un wi = true → validB l = true → ∀ x, (x = fr ∨ x = fr + wi ∨ (0 ≤ un ∧ x = un)) → 0 ≤ beginF l x → ¬ (a < beginF l x ∧ beginF l x ≤ b) ∧ ¬ (c < beginF l x ∧ beginF l x ≤ d)) :
    appliesF l kind fr un wi a c = appliesF l kind fr un wi b d := by
  have i1 : instB a = true := by simp [instB]; omega
  have i2 : instB b = true := by simp [instB]; omega
  have i3 : instB c = true := by simp [instB]; omega
  have i4 : instB d = true := by simp [instB]; omega
  rcases hS : spanF l kind fr un wi with ⟨S1, S2, S3⟩
  by_cases h6 : S3 = 0
  · subst h6
    obtain ⟨hd, hv, e0, e1, e2⟩ := span_zero (l := l) (kind := kind) (fr := fr) (un := un) (wi := wi) (by rw [hS])
    rw [hS] at e1 e2
    dsimp only at e1 e2
    have k1 := hn hd hv fr (.inl rfl)
    have k2 := hn hd hv (fr + wi) (.inr (.inl rfl))
    have hb1 : beginF l fr = S1 := by unfold beginF; rw [if_pos e0, e1]
    have hs1 := (begin_ok hv fr).1
    have hs0 : 0 ≤ S1 := by
      rcases inst_ok hv fr with ⟨-, q, -⟩ | ⟨q, -⟩
      · rw [e1]; exact q
      · omega
    rw [hb1] at k1
    have k1' := k1 hs0
    have k3 : S2 < 0 ∨ (¬ (a < S2 ∧ S2 ≤ b) ∧ ¬ (c < S2 ∧ S2 ≤ d)) := by
      by_cases hu : un < 0
      · left; rw [if_pos hu] at e2; omega
      · rw [if_neg hu] at e2
        rcases Int.lt_or_le S2 0 with h | h
        · exact .inl h
        · right
          rw [e2]
          exact hn hd hv un (.inr (.inr ⟨by omega, rfl⟩)) (by rw [← e2]; exact h)
    obtain ⟨W, hW⟩ : ∃ W, W = beginF l (fr + wi) := ⟨_, rfl⟩
    rw [← hW] at k2
    unfold appliesF
    rw [hS, i1, i2, i3, i4, ← hW]
    have d1 : decide (S1 ≤ c) = decide (S1 ≤ d) := by rw [decide_eq_decide]; omega
    have d2 : (decide (S2 < 0) || decide (c < S2)) = (decide (S2 < 0) || decide (d < S2)) := by
      rcases k3 with k | k
      · rw [decide_eq_true k]; rfl
      · congr 1; rw [decide_eq_decide]; omega
    have d3 : decide (S1 ≤ a) = decide (S1 ≤ b) := by rw [decide_eq_decide]; omega
    have d4 : (decide (0 ≤ W) && decide (W ≤ c)) = (decide (0 ≤ W) && decide (W ≤ d)) := by
      by_cases hw : 0 ≤ W
      · have := k2 hw
        congr 1; rw [decide_eq_decide]; omega
      · rw [decide_eq_false hw]; rfl
    dsimp only
    rw [d1, d2, d3, d4]
  · rw [applies_no hS (.inl h6), applies_no hS (.inl h6)]
theorem changes_err {ms : List Ms} {au : List ByteArray} {zs : List (List Shift)} (h : (changesF ms au zs).2 ≠ 0) : (changesF ms au zs).1 = [] := by
  have hc : ∀ (ms : List Ms) (xs : List Int), (chg au zs ms xs).2 ≠ 0 → (chg au zs ms xs).1 = [] := by
    intro ms
    induction ms with
    | nil => intro xs h; exact absurd rfl h
    | cons m r ih =>
      intro xs h
      simp only [chg] at h ⊢
      split
      · rename_i h1; rw [if_pos h1] at h; exact ih _ h
      · rename_i h1
        rw [if_neg h1] at h
        split
        · rename_i h2; rw [if_pos h2] at h; exact ih _ h
        · rfl
  unfold changesF at h ⊢
  split
  · rfl
  · rename_i h1
    rw [if_neg h1] at h
    split
    · rfl
    · rename_i h2
      rw [if_neg h2] at h
      split
      · rename_i h3; rw [if_pos h3] at h; exact hc _ _ h
      · rfl
theorem chg_in (au : List ByteArray) (zs : List (List Shift)) (hv : ∀ i, i < au.length → validB (zs.getD i []) = true) : ∀ (ms : List Ms) (xs : List Int), xs.Pairwise (· < ·) → (∀ x ∈ xs, 0 ≤ x) → (chg au zs ms xs).2 = 0 →
    (chg au zs ms xs).1.Pairwise (· < ·) ∧ (∀ y ∈ (chg au zs ms xs).1, 0 ≤ y) ∧ (∀ x ∈ xs, x ∈ (chg au zs ms xs).1) ∧
    ∀ m ∈ ms, 0 ≤ Lib.idxOfS au m.auth → ∀ d ∈ daysF m, 0 ≤ beginF (zs.getD (Lib.idxOfS au m.auth).toNat []) d → beginF (zs.getD (Lib.idxOfS au m.auth).toNat []) d ∈ (chg au zs ms xs).1
  | [], xs, hs, h0, _ => ⟨hs, h0, fun _ h => h, fun m hm => by simp at hm⟩
  | m :: r, xs, hs, h0, h => by
    simp only [chg] at h ⊢
    by_cases h1 : Lib.idxOfS au m.auth < 0
    · rw [if_pos h1] at h ⊢
      obtain ⟨q1, q2, q3, q4⟩ := chg_in au zs hv r xs hs h0 h
      refine ⟨q1, q2, q3, fun m' hm' hi => ?_⟩
      rcases List.mem_cons.1 hm' with rfl | hm'
      · omega
      · exact q4 m' hm' hi
    · rw [if_neg h1] at h ⊢
      by_cases h2 : datedB m.kind m.fr m.un m.wi = true
      · rw [if_pos h2] at h ⊢
        have hlt := (idxOfS_lt au m.auth).2
        have hvz := hv (Lib.idxOfS au m.auth).toNat (by omega)
        obtain ⟨q1, q2, q3, q4⟩ := chg_in au zs hv r (beginsF (zs.getD (Lib.idxOfS au m.auth).toNat []) (daysF m) xs) (beginsF_sorted _ _ _ hs) (fun y hy => by
          rcases (beginsF_mem hvz).1 hy with h | ⟨d, -, h, rfl⟩
          · exact h0 y h
          · exact h) h
        refine ⟨q1, q2, fun x hx => q3 x ((beginsF_mem hvz).2 (.inl hx)), fun m' hm' hi d hd hb => ?_⟩
        rcases List.mem_cons.1 hm' with rfl | hm'
        · exact q3 _ ((beginsF_mem hvz).2 (.inr ⟨d, hd, hb, rfl⟩))
        · exact q4 m' hm' hi d hd hb
      · rw [if_neg h2] at h; cases h
/-- What is known of the changes, when there is no error. -/
structure RIn (r : List Int × Int) (ms : List Ms) (au : List ByteArray) (zs : List (List Shift)) : Prop where
  len : au.length = zs.length
  ok : ∀ i, i < au.length → validB (zs.getD i []) = true ∧ Lib.containsS (au.take i) (au.getD i ByteArray.empty) = false
  sorted : r.1.Pairwise (· < ·)
  pos : ∀ y ∈ r.1, 0 ≤ y
  zero : 0 ∈ r.1
  mem : ∀ m ∈ ms, 0 ≤ Lib.idxOfS au m.auth → ∀ d ∈ daysF m, 0 ≤ beginF (zs.getD (Lib.idxOfS au m.auth).toNat []) d → beginF (zs.getD (Lib.idxOfS au m.auth).toNat []) d ∈ r.1
theorem changes_in {ms : List Ms} {au : List ByteArray} {zs : List (List Shift)} (h : (changesF ms au zs).2 = 0) : RIn (changesF ms au zs) ms au zs := by
  unfold changesF at h ⊢
  by_cases h1 : 200 < ms.length ∨ 6 < au.length
  · rw [if_pos h1] at h; cases h
  rw [if_neg h1] at h ⊢
  by_cases h2 : au.length ≠ zs.length
  · rw [if_pos h2] at h; cases h
  rw [if_neg h2] at h ⊢
  by_cases h3 : (List.range au.length).all (authsOk au zs) = true
  · rw [if_pos h3] at h ⊢
    have hok : ∀ i, i < au.length → validB (zs.getD i []) = true ∧ Lib.containsS (au.take i) (au.getD i ByteArray.empty) = false := fun i hi => by
      have := List.all_eq_true.1 h3 i (List.mem_range.2 hi)
      unfold authsOk at this
      simp only [Bool.and_eq_true, Bool.not_eq_true'] at this
      exact ⟨this.2.1, this.2.2⟩
    obtain ⟨q1, q2, q3, q4⟩ := chg_in au zs (fun i hi => (hok i hi).1) ms [0] (by simp) (by simp) h
    exact ⟨by omega, hok, q1, q2, q3 0 (by simp), q4⟩
  · rw [if_neg h3] at h; cases h
theorem head_zero {xs : List Int} (h1 : xs.Pairwise (· < ·)) (h2 : ∀ y ∈ xs, 0 ≤ y) (h3 : 0 ∈ xs) : xs[0]? = some 0 := by
  rcases xs with _ | ⟨x, r⟩
  · simp at h3
  · rcases List.mem_cons.1 h3 with h | h
    · rw [← h]; rfl
    · have := (List.pairwise_cons.1 h1).1 0 h
      have := h2 x (by simp)
      omega
theorem sorted_get {xs : List Int} (h : xs.Pairwise (· < ·)) {i : Nat} {x y : Int} (hx : xs[i]? = some x) (hy : xs[i + 1]? = some y) : x < y := by
  obtain ⟨hi, rfl⟩ := List.getElem?_eq_some_iff.1 hx
  obtain ⟨hj, rfl⟩ := List.getElem?_eq_some_iff.1 hy
  exact List.pairwise_iff_getElem.1 h i (i + 1) hi hj (by omega)
theorem days_in (m : Ms) {x : Int} (h : x = m.fr ∨ x = m.fr + m.wi ∨ (0 ≤ m.un ∧ x = m.un)) : x ∈ daysF m := by
  unfold daysF
  rcases h with rfl | rfl | ⟨h, rfl⟩
  · simp
  · simp
  · rw [if_pos h]; simp
end Go.Cz.Wn
namespace Go.Cz.Vd
set_option linter.unusedVariables false
set_option linter.unusedSimpArgs false
open Go.Cz.Lx Go.Cz.Fo
open Go.Cz.Ck (Shift validB)
open Go.Cz.Wn (datedB appliesF Ms changesF beginF daysF)
section
variable {s s' : Sc} {l : List Me} {cov : List Bytes}
theorem counting_congr {k : Int} (h : ∀ m ∈ l, countsB s m = countsB s' m) : counting s k l = counting s' k l := by
  unfold counting
  exact List.filter_congr fun m hm => by rw [h m hm]
theorem exempts_congr (h : ∀ m ∈ l, countsB s m = countsB s' m) : exempts s l = exempts s' l := by unfold exempts; rw [counting_congr h]
theorem forbs_congr (h : ∀ m ∈ l, countsB s m = countsB s' m) : forbs s l = forbs s' l := by unfold forbs; rw [counting_congr h, exempts_congr h]
theorem left_congr (h : ∀ m ∈ l, countsB s m = countsB s' m) : leftM s l cov = leftM s' l cov := by unfold leftM; rw [forbs_congr h]
theorem blocks_congr (h : ∀ m ∈ l, countsB s m = countsB s' m) : blocksM s l cov = blocksM s' l cov := by unfold blocksM; rw [counting_congr h, left_congr h]
theorem licensed_congr (hc : checkV l s = checkV l s') (h : ∀ m ∈ l, countsB s m = countsB s' m) : licensedV l s cov = licensedV l s' cov := by
  unfold licensedV
  rw [hc, forbs_congr h, left_congr h, blocks_congr h]
end
theorem idx_idxA (a : Bytes) : ∀ (l : List Bytes) (k : Nat), Go.Lib.idxFromS (l.map bs) (bs a) k = match idxA a l with | some i => ((k + i : Nat) : Int) | none => -1
  | [], k => rfl
  | b :: r, k => by
    rw [List.map_cons, Go.Lib.idxFromS, idxA, idx_idxA a r (k + 1)]
    by_cases h : b = a
    · rw [if_pos h, if_pos (by rw [h])]; simp
    · rw [if_neg h, if_neg (fun e => h (bs_inj e))]
      cases idxA a r with
      | none => rfl
      | some i =>
        show ((k + 1 + i : Nat) : Int) = ((k + (i + 1) : Nat) : Int)
        rw [Nat.add_assoc, Nat.add_comm 1 i]
/-- A row of measures, as the windows see it. -/
def Alike (l : List Me) (ms : List Ms) : Prop := ∀ m ∈ l, ∃ x ∈ ms, x.auth = bs m.auth ∧ x.kind = m.kind ∧ x.fr = m.fr ∧ x.un = m.un ∧ x.wi = m.wi
theorem time_counts {s : Sc} {m : Me} {ms : List Ms} {later : Int} (hp : properB s = true) (h1 : s.now ≤ later) (h2 : later ≤ 144001439) (hx : ∃ x ∈ ms, x.auth = bs m.auth ∧ x.kind = m.kind ∧ x.fr = m.fr ∧ x.un = m.un ∧ x.wi = m.wi)
    (hc : (changesF ms (s.auths.map bs) s.zones).2 = 0) (hn : ∀ y ∈ (changesF ms (s.auths.map bs) s.zones).1, ¬ (s.now < y ∧ y ≤ later)) : countsB s m = countsB { s with now := later } m := by
  have hin := Wn.changes_in hc
  have ht : timeB s.signed s.now = true := by
    unfold properB at hp
    simp only [Bool.and_eq_true] at hp
    exact hp.2.2.2.2.2.2
  simp only [timeB, Bool.and_eq_true, decide_eq_true_eq] at ht
  unfold countsB
  show _ = match idxA m.auth s.auths with
    | some i => appliesF (s.zones.getD i []) m.kind m.fr m.un m.wi s.signed later && holdsF s.dom (s.cases.getD i []) m.cond
    | none => false
  cases hi : idxA m.auth s.auths with
  | none => rfl
  | some i =>
    have he : Go.Lib.idxOfS (s.auths.map bs) (bs m.auth) = (i : Int) := by
      unfold Go.Lib.idxOfS
      rw [idx_idxA, hi]
      simp
    dsimp only
    rw [Wn.const_law (l := s.zones.getD i []) (a := s.signed) (b := s.signed) (c := s.now) (d := later) ht.1 (Int.le_refl _) (by omega) (by omega) h1 h2]
    intro hd hv x hx' hb
    refine ⟨by omega, ?_⟩
    obtain ⟨x0, hx0, e1, e2, e3, e4, e5⟩ := hx
    have h5 := hin.mem x0 hx0 (by rw [e1, he]; omega) x (Wn.days_in x0 (by rw [e3, e4, e5]; exact hx'))
    rw [e1, he] at h5
    exact hn _ (h5 (by simpa using hb))
theorem time_law {s : Sc} {l : List Me} {ms : List Ms} {later : Int} (h0 : (decideV l s).2 = 0) (h1 : s.now ≤ later) (hx : Alike l ms)
    (hc : (changesF ms (s.auths.map bs) s.zones).2 = 0) (hn : ∀ y ∈ (changesF ms (s.auths.map bs) s.zones).1, ¬ (s.now < y ∧ y ≤ later)) :
    (later ≤ 144001439 → decideV l { s with now := later } = decideV l s) ∧ (144001439 < later → (decideV l { s with now := later }).2 = 1) := by
  obtain ⟨c, -⟩ := decide_forbids h0
  obtain ⟨hp, -⟩ := check_zero.1 c
  have hp' := hp
  unfold properB at hp
  simp only [Bool.and_eq_true] at hp
  have ht := hp.2.2.2.2.2.2
  simp only [timeB, Bool.and_eq_true, decide_eq_true_eq] at ht
  constructor
  · intro h2
    have e1 : timeB s.signed later = timeB s.signed s.now := by
      rw [hp.2.2.2.2.2.2]
      simp only [timeB, Bool.and_eq_true, decide_eq_true_eq]
      omega
    have e2 : properB { s with now := later } = properB s := by
      unfold properB
      show (decide (1 ≤ s.auths.length) && (decide (s.auths.length ≤ 6) && (decide (s.zones.length = s.auths.length) && (decide (s.cases.length = s.auths.length) && (validD s.dom && (authL s.dom [] s.auths s.zones s.cases && timeB s.signed later)))))) = _
      rw [e1]
    have e3 : checkV l { s with now := later } = checkV l s := by
      unfold checkV
      rw [e2]
    unfold decideV
    exact licensed_congr e3 fun m hm => (time_counts hp' h1 h2 (hx m hm) hc hn).symm
  · intro h2
    have e2 : properB { s with now := later } = false := by
      unfold properB
      have : timeB s.signed later = false := by
        simp only [timeB, Bool.and_eq_false_iff, decide_eq_false_iff_not]
        omega
      show (decide (1 ≤ s.auths.length) && (decide (s.auths.length ≤ 6) && (decide (s.zones.length = s.auths.length) && (decide (s.cases.length = s.auths.length) && (validD s.dom && (authL s.dom [] s.auths s.zones s.cases && timeB s.signed later)))))) = _
      rw [this]
      simp
    have e3 : checkV l { s with now := later } = 1 := by
      unfold checkV
      rw [if_pos e2]
    unfold decideV licensedV
    rw [e3]
    simp
end Go.Cz.Vd
