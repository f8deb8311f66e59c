/-
  Plain laws of formulas: connectives, tests, what matters, parts.
-/
import Derived.Test.YtoeknmkephnekaaGreatDoorFmModel
namespace Go.Cz.Fo
set_option linter.unusedVariables false
set_option linter.unusedSimpArgs false
open Go.Cz.Lx
theorem formedB_mk (op : Int) (name : Bytes) (m n : Int) (ks : List Fm) : formedB (.mk op name m n ks) = if op = 3 then decide (ks.length = 0) && (decide (1 ≤ m) && (decide (m ≤ 6) && (nameB name && !keyB name)))
    else if name ≠ [] ∨ m ≠ 0 ∨ n ≠ 0 then false else if op = 1 ∨ op = 2 then decide (ks.length = 0) else if op = 4 then decide (ks.length = 1) else decide ((op = 5 ∨ op = 6) ∧ 2 ≤ ks.length) := rfl
theorem nodeE_mk (d : List Fact) (op : Int) (name : Bytes) (m n : Int) (ks : List Fm) : nodeE d (.mk op name m n ks) = if formedB (.mk op name m n ks) = false then 1 else if op ≠ 3 then 0 else if n < 0 ∨ 1000000 < n then 10 else if idxD name d < 0 then 7 else 0 := rfl
theorem firsts_zero {look : Fm → Nat} : ∀ {ks : List Fm}, firsts look ks = 0 ↔ ∀ k ∈ ks, firstF look k = 0
  | [] => by simp [firsts]
  | a :: r => by
    rw [firsts]
    by_cases h : firstF look a = 0
    · rw [if_neg (by simp [h]), firsts_zero]
      simp [h]
    · rw [if_pos h]
      simp [h]
theorem firstF_eq {look : Fm → Nat} : ∀ f, firstF look f = if look f ≠ 0 then look f else firsts look f.kids
  | .mk a b c d ks => by rw [firstF]; rfl
theorem firstF_zero {look : Fm → Nat} (f : Fm) : firstF look f = 0 ↔ look f = 0 ∧ ∀ k ∈ f.kids, firstF look k = 0 := by
  rw [firstF_eq]
  by_cases h : look f = 0
  · rw [if_neg (by simp [h]), firsts_zero]; simp [h]
  · rw [if_pos h]; simp [h]
theorem largeB_false {f : Fm} : largeB f = false ↔ size f ≤ 200 ∧ depth f ≤ 20 := by
  unfold largeB
  rw [Bool.or_eq_false_iff, decide_eq_false_iff_not, decide_eq_false_iff_not]
  omega
theorem checkF_zero {d : List Fact} {f : Fm} : checkF d f = 0 ↔ (size f ≤ 200 ∧ depth f ≤ 20) ∧ firstF (nodeE d) f = 0 := by
  unfold checkF
  rw [← largeB_false]
  cases largeB f <;> simp
theorem valueF_eq (d : List Fact) (c : List Int) : ∀ f : Fm, valueF d c f = if f.op = 3 then cmpB (c.getD (idxD f.name d).toNat 0) f.cmp f.num else if f.op = 4 then !valueAll d c f.kids else if f.op = 5 then valueAll d c f.kids else if f.op = 6 then valueAny d c f.kids else decide (f.op = 1)
  | .mk a b e n ks => by rw [valueF]; rfl
structure Good (d : List Fact) (c : List Int) (f : Fm) : Prop where
  small : size f ≤ 60
  deep : depth f ≤ 16
  fits : fitsB d c = true
  check : checkF d f = 0
section
variable {d : List Fact} {c : List Int} {f g : Fm}
theorem holds_value (h1 : fitsB d c = true) (h2 : checkF d f = 0) : holdsF d c f = valueF d c f := by unfold holdsF; rw [h1, h2]; rfl
theorem Good.holds (h : Good d c f) : holdsF d c f = valueF d c f := holds_value h.fits h.check
theorem Good.first (h : Good d c f) : firstF (nodeE d) f = 0 := (checkF_zero.1 h.check).2
/-- A connective over formulas without errors. -/
theorem conn_first {op : Int} {ks : List Fm} (hk : ∀ k ∈ ks, firstF (nodeE d) k = 0) (hn : (op = 4 ∧ ks.length = 1) ∨ ((op = 5 ∨ op = 6) ∧ 2 ≤ ks.length)) : firstF (nodeE d) (.mk op [] 0 0 ks) = 0 := by
  have h3 : ¬ op = 3 := by omega
  have h12 : ¬ (op = 1 ∨ op = 2) := by omega
  have hf : formedB (.mk op [] 0 0 ks) = true := by
    rw [formedB_mk]
    rw [if_neg h3, if_neg (by simp), if_neg h12]
    rcases hn with ⟨h1, h2⟩ | ⟨h1, h2⟩
    · rw [if_pos h1, h2]; rfl
    · rw [if_neg (by omega)]; exact decide_eq_true ⟨h1, h2⟩
  rw [firstF_zero]
  refine ⟨?_, hk⟩
  rw [nodeE_mk, if_neg (by rw [hf]; simp), if_pos h3]
theorem conn_check {op : Int} {ks : List Fm} (hk : firstF (nodeE d) (.mk op [] 0 0 ks) = 0) (hs : sizes ks ≤ 199) (hd : depths ks ≤ 19) : checkF d (.mk op [] 0 0 ks) = 0 := by
  rw [checkF_zero, size, depth]
  exact ⟨⟨by omega, by omega⟩, hk⟩
abbrev notF (f : Fm) : Fm := .mk 4 [] 0 0 [f]
abbrev andF (f g : Fm) : Fm := .mk 5 [] 0 0 [f, g]
abbrev orF (f g : Fm) : Fm := .mk 6 [] 0 0 [f, g]
theorem first1 {op : Int} (ho : op = 4) (hf : firstF (nodeE d) f = 0) : firstF (nodeE d) (.mk op [] 0 0 [f]) = 0 := conn_first (by simp [hf]) (.inl ⟨ho, rfl⟩)
theorem first2 {op : Int} (ho : op = 5 ∨ op = 6) (hf : firstF (nodeE d) f = 0) (hg : firstF (nodeE d) g = 0) : firstF (nodeE d) (.mk op [] 0 0 [f, g]) = 0 := conn_first (by simp [hf, hg]) (.inr ⟨ho, by simp⟩)
theorem connect (hf : Good d c f) (hg : Good d c g) : holdsF d c (notF f) = !(holdsF d c f) ∧ holdsF d c (andF f g) = (holdsF d c f && holdsF d c g) ∧ holdsF d c (orF g f) = (holdsF d c f || holdsF d c g) ∧
    holdsF d c (andF g f) = (holdsF d c f && holdsF d c g) ∧ holdsF d c (orF f g) = (holdsF d c f || holdsF d c g) ∧ holdsF d c (notF (andF f g)) = holdsF d c (orF (notF f) (notF g)) := by
  have s1 := hf.small
  have s2 := hg.small
  have d1 := hf.deep
  have d2 := hg.deep
  have f1 := hf.first
  have f2 := hg.first
  have k : ∀ {op ks}, firstF (nodeE d) (.mk op [] 0 0 ks) = 0 → sizes ks ≤ 199 → depths ks ≤ 19 → holdsF d c (.mk op [] 0 0 ks) = valueF d c (.mk op [] 0 0 ks) := fun h1 h2 h3 => holds_value hf.fits (conn_check h1 h2 h3)
  rw [hf.holds, hg.holds]
  have n1 := first1 (d := d) (f := f) rfl f1
  have n2 := first1 (d := d) (f := g) rfl f2
  have a1 := first2 (op := 5) (.inl rfl) f1 f2
  rw [k n1 (by simp only [sizes]; omega) (by simp only [depths]; omega), k a1 (by simp only [sizes]; omega) (by simp only [depths]; omega), k (first2 (op := 6) (.inr rfl) f2 f1) (by simp only [sizes]; omega) (by simp only [depths]; omega),
    k (first2 (op := 5) (.inl rfl) f2 f1) (by simp only [sizes]; omega) (by simp only [depths]; omega), k (first2 (op := 6) (.inr rfl) f1 f2) (by simp only [sizes]; omega) (by simp only [depths]; omega),
    k (first1 (op := 4) rfl a1) (by simp only [sizes, size]; omega) (by simp only [depths, depth]; omega), k (first2 (op := 6) (.inr rfl) n1 n2) (by simp only [sizes, size]; omega) (by simp only [depths, depth]; omega)]
  simp only [valueF, valueAll, valueAny]
  cases valueF d c f <;> cases valueF d c g <;> simp
end
/-- A fact of a valid domain. -/
theorem valid_get : ∀ {d : List Fact} {seen : List Bytes} {i : Nat} {f : Fact}, validL seen d = true → d[i]? = some f → nameB f.name = true ∧ f.name ∉ seen ∧ idxD f.name d = (i : Int)
  | [], _, i, f, _, h => by simp at h
  | a :: r, seen, 0, f, hv, h => by
    simp at h; subst h
    rw [validL, Bool.and_eq_true, Bool.and_eq_true, Bool.and_eq_true] at hv
    refine ⟨hv.2.1, fun hx => ?_, ?_⟩
    · have := hv.2.2.1
      rw [List.contains_iff_mem.2 hx] at this
      simp at this
    · rw [idxD, if_pos rfl]; rfl
  | a :: r, seen, i + 1, f, hv, h => by
    rw [validL, Bool.and_eq_true, Bool.and_eq_true, Bool.and_eq_true] at hv
    obtain ⟨h1, h2, h3⟩ := valid_get (i := i) hv.2.2.2 (by simpa using h)
    simp only [List.mem_cons, not_or] at h2
    refine ⟨h1, h2.2, ?_⟩
    rw [idxD, if_neg (fun e => h2.1 e.symm), h3, if_neg (by omega)]
    omega
theorem validD_list {d : List Fact} (h : validD d = true) : validL [] d = true := by unfold validD at h; rw [Bool.and_eq_true] at h; exact h.1
theorem fits_valid {d : List Fact} {c : List Int} (h : fitsB d c = true) : validD d = true ∧ c.length = d.length ∧ within d c = true := by
  unfold fitsB at h
  rw [Bool.and_eq_true, Bool.and_eq_true, decide_eq_true_eq] at h
  exact h
theorem test_holds {d : List Fact} {c : List Int} {i : Nat} {f : Fact} {m n : Int} (hf : fitsB d c = true) (hi : d[i]? = some f) (hk : keyB f.name = false) (h0 : 0 ≤ n) (h1 : n ≤ 1000000) :
    holdsF d c (.mk 3 f.name m n []) = if 1 ≤ m ∧ m ≤ 6 then cmpB (c.getD i 0) m n else false := by
  obtain ⟨n1, -, n2⟩ := valid_get (validD_list (fits_valid hf).1) hi
  by_cases hm : 1 ≤ m ∧ m ≤ 6
  · rw [if_pos hm]
    have hfo : formedB (.mk 3 f.name m n []) = true := by
      rw [formedB_mk]
      simp [hm.1, hm.2, n1, hk]
    have hno : nodeE d (.mk 3 f.name m n []) = 0 := by
      rw [nodeE_mk, if_neg (by rw [hfo]; simp), if_neg (by simp), if_neg (by omega), if_neg (by omega)]
    rw [holds_value hf (by
      rw [checkF_zero, firstF_zero]
      refine ⟨by simp [size, sizes, depth, depths], hno, by simp [Fm.kids]⟩), valueF, if_pos rfl, n2]
    rfl
  · rw [if_neg hm]
    have hfo : formedB (.mk 3 f.name m n []) = false := by
      rw [formedB_mk]
      simp
      intro h1 h2
      omega
    have hc : checkF d (.mk 3 f.name m n []) = 1 := by
      unfold checkF
      rw [if_neg (by rw [largeB_false.2 (by simp [size, sizes, depth, depths])]; simp), firstF_eq]
      unfold nodeE
      rw [if_pos hfo]
      rfl
    unfold holdsF
    rw [hc]
    simp
mutual
/-- A formula has a test of a fact. -/
def namedF (s : Bytes) : Fm → Bool | .mk op name _ _ ks => (decide (op = 3) && decide (name = s)) || nameds s ks
def nameds (s : Bytes) : List Fm → Bool | [] => false | k :: r => namedF s k || nameds s r
end
theorem named_mem {s : Bytes} {k : Fm} : ∀ {ks : List Fm}, k ∈ ks → namedF s k = true → nameds s ks = true
  | a :: r, hk, h => by
    rw [nameds]
    rcases List.mem_cons.1 hk with rfl | hk
    · rw [h]; rfl
    · rw [named_mem hk h]; simp
theorem namedF_eq (s : Bytes) : ∀ f : Fm, namedF s f = ((decide (f.op = 3) && decide (f.name = s)) || nameds s f.kids) | .mk _ _ _ _ ks => by rw [namedF]; rfl
theorem idxD_get {s : Bytes} : ∀ {d : List Fact}, 0 ≤ idxD s d → ∃ f, d[(idxD s d).toNat]? = some f ∧ f.name = s
  | [], h => by simp [idxD] at h
  | a :: r, h => by
    rw [idxD] at h ⊢
    by_cases h1 : a.name = s
    · rw [if_pos h1]; exact ⟨a, rfl, h1⟩
    · rw [if_neg h1] at h ⊢
      by_cases h2 : idxD s r < 0
      · rw [if_pos h2] at h; omega
      · rw [if_neg h2]
        obtain ⟨f, h3, h4⟩ := idxD_get (s := s) (d := r) (by omega)
        refine ⟨f, ?_, h4⟩
        rw [show (idxD s r + 1).toNat = (idxD s r).toNat + 1 by omega]
        simpa using h3
theorem valueAll_congr {d : List Fact} {a b : List Int} : ∀ {ks : List Fm}, (∀ k ∈ ks, valueF d a k = valueF d b k) → valueAll d a ks = valueAll d b ks ∧ valueAny d a ks = valueAny d b ks
  | [], _ => ⟨by simp [valueAll], by simp [valueAny]⟩
  | k :: r, h => by
    obtain ⟨h1, h2⟩ := valueAll_congr (ks := r) fun k hk => h k (by simp [hk])
    rw [valueAll, valueAll, valueAny, valueAny, h1, h2, h k (by simp)]
    exact ⟨rfl, rfl⟩
theorem matters {d : List Fact} {a b : List Int} (f : Fm) : firstF (nodeE d) f = 0 → (∀ (i : Nat) (x : Fact), d[i]? = some x → namedF x.name f = true → a.getD i 0 = b.getD i 0) → valueF d a f = valueF d b f := by
  refine Fm.induct (P := fun f => firstF (nodeE d) f = 0 → (∀ (i : Nat) (x : Fact), d[i]? = some x → namedF x.name f = true → a.getD i 0 = b.getD i 0) → valueF d a f = valueF d b f) ?_ f
  clear f
  intro f ih h0 hn
  rw [firstF_zero] at h0
  obtain ⟨h1, h2⟩ := valueAll_congr (d := d) (a := a) (b := b) (ks := f.kids) fun k hk => ih k hk (h0.2 k hk) fun i x hx hk2 => hn i x hx (by rw [namedF_eq, named_mem hk hk2]; simp)
  rw [valueF_eq, valueF_eq, h1, h2]
  by_cases h3 : f.op = 3
  · rw [if_pos h3, if_pos h3]
    have h4 : 0 ≤ idxD f.name d := by
      have := h0.1
      unfold nodeE at this
      split at this
      · simp at this
      split at this
      · rename_i h; exact absurd h3 h
      split at this
      · simp at this
      split at this
      · simp at this
      · omega
    obtain ⟨x, h5, h6⟩ := idxD_get h4
    rw [hn _ x h5 (by rw [namedF_eq, h3, h6]; simp)]
  · rw [if_neg h3, if_neg h3]
/-- The values of one case for the facts that a formula names, those of another one for all others. -/
def mixF (f : Fm) : List Fact → List Int → List Int → List Int
  | x :: d, p :: a, q :: b => (if namedF x.name f = true then p else q) :: mixF f d a b
  | _, _, b => b
theorem mix_length {f : Fm} : ∀ (d : List Fact) (a b : List Int), (mixF f d a b).length = b.length
  | [], _, b => by simp [mixF]
  | _ :: _, [], b => by simp [mixF]
  | _ :: _, _ :: _, [] => by simp [mixF]
  | x :: d, p :: a, q :: b => by simp [mixF, mix_length d a b]
theorem mix_get {f : Fm} : ∀ {d : List Fact} {a b : List Int} {i : Nat} {x : Fact}, a.length = d.length → b.length = d.length → d[i]? = some x → (mixF f d a b).getD i 0 = if namedF x.name f = true then a.getD i 0 else b.getD i 0
  | [], _, _, i, x, _, _, h => by simp at h
  | _ :: _, [], _, _, _, h, _, _ => by simp at h
  | _ :: _, _ :: _, [], _, _, _, h, _ => by simp at h
  | y :: d, p :: a, q :: b, 0, x, _, _, h => by
    simp at h; subst h
    simp [mixF]
  | y :: d, p :: a, q :: b, i + 1, x, h1, h2, h => by
    have := mix_get (f := f) (d := d) (a := a) (b := b) (i := i) (x := x) (by simpa using h1) (by simpa using h2) (by simpa using h)
    simpa [mixF] using this
theorem mix_within {f : Fm} : ∀ {d : List Fact} {a b : List Int}, within d a = true → within d b = true → within d (mixF f d a b) = true
  | [], _, _, _, _ => by simp [within]
  | _ :: _, [], b, _, h => by simpa [mixF] using h
  | _ :: _, _ :: _, [], _, _ => by simp [mixF, within]
  | x :: d, p :: a, q :: b, h1, h2 => by
    rw [within, Bool.and_eq_true, Bool.and_eq_true] at h1 h2
    rw [mixF, within, mix_within h1.2.2 h2.2.2]
    by_cases h : namedF x.name f = true
    · rw [if_pos h, h1.1, h1.2.1]; rfl
    · rw [if_neg h, h2.1, h2.2.1]; rfl
theorem mix_fits {d : List Fact} {a b : List Int} (f : Fm) (h1 : fitsB d a = true) (h2 : fitsB d b = true) : fitsB d (mixF f d a b) = true := by
  obtain ⟨v, l1, w1⟩ := fits_valid h1
  obtain ⟨-, l2, w2⟩ := fits_valid h2
  unfold fitsB
  rw [v, mix_length, decide_eq_true l2, mix_within w1 w2]
  rfl
theorem mix_holds {d : List Fact} {a b : List Int} {f : Fm} (hf : Good d a f) (h2 : fitsB d b = true) : holdsF d a f = holdsF d (mixF f d a b) f := by
  obtain ⟨v, l1, w1⟩ := fits_valid hf.fits
  obtain ⟨-, l2, w2⟩ := fits_valid h2
  rw [hf.holds, holds_value (mix_fits f hf.fits h2) hf.check]
  refine matters f hf.first fun i x hx hn => ?_
  rw [mix_get l1 l2 hx, if_pos hn]
section
variable {d : List Fact} {c : List Int} {f : Fm}
theorem part_kid {k : Fm} (h : checkF d f = 0) (hk : k ∈ f.kids) : checkF d k = 0 := by
  rw [checkF_zero] at h ⊢
  have h1 := size_mem hk
  have h2 := depth_mem hk
  rw [size_kids, depth_kids] at h
  exact ⟨⟨by omega, by omega⟩, ((firstF_zero f).1 h.2).2 k hk⟩
theorem check_one {g : Fm} (hs : size g ≤ 200) (hd : depth g ≤ 20) (hf : formedB g = false) : checkF d g = 1 := by
  unfold checkF
  rw [if_neg (by rw [largeB_false.2 ⟨hs, hd⟩]; simp), firstF_eq]
  unfold nodeE
  rw [if_pos hf]
  rfl
theorem part_beside (h : Good d c f) (op : Int) : checkF d (.mk 6 [] 0 0 [f, .mk op [] 7 0 []]) = 1 := by
  have hb : formedB (.mk op [] 7 0 []) = false := by
    rw [formedB_mk]
    split
    · simp
    · rw [if_pos (by simp)]
  have h6 : nodeE d (.mk 6 [] 0 0 [f, .mk op [] 7 0 []]) = 0 := by
    rw [nodeE_mk, if_neg (by rw [formedB_mk]; simp), if_pos (by decide)]
  have s1 := h.small
  have d1 := h.deep
  unfold checkF
  rw [if_neg (by rw [largeB_false.2 ⟨by simp only [size, sizes]; omega, by simp only [depth, depths]; omega⟩]; simp), firstF_eq, if_neg (by simp [h6])]
  simp only [Fm.kids]
  rw [firsts, if_neg (by simp [h.first]), firsts]
  have h1 : firstF (nodeE d) (.mk op [] 7 0 []) = 1 := by
    rw [firstF_eq]
    unfold nodeE
    rw [if_pos hb]
    rfl
  rw [h1]
  rfl
theorem holds_check {g : Fm} (h : checkF d g = 1) : holdsF d c g = false := by unfold holdsF; rw [h]; simp
theorem part_test (h : Good d c f) (h3 : f.op = 3) : checkF d (.mk 3 f.name f.cmp f.num [.mk 1 [] 0 0 []]) = 1 :=
  check_one (by simp [size, sizes]) (by simp [depth, depths]) (by simp [formedB, Fm.op, Fm.kids])
theorem part_name (h : Good d c f) (h3 : f.op ≠ 3) : checkF d (.mk f.op [97] f.cmp f.num f.kids) = 1 := by
  have s1 := h.small
  have d1 := h.deep
  rw [size_kids] at s1
  rw [depth_kids] at d1
  refine check_one (by simp only [size]; omega) (by simp only [depth]; omega) ?_
  rw [formedB_mk, if_neg h3, if_pos (by simp)]
theorem part_num (h : Good d c f) (h3 : f.op ≠ 3) : checkF d (.mk f.op f.name f.cmp 1 f.kids) = 1 := by
  have s1 := h.small
  have d1 := h.deep
  rw [size_kids] at s1
  rw [depth_kids] at d1
  refine check_one (by simp only [size]; omega) (by simp only [depth]; omega) ?_
  rw [formedB_mk, if_neg h3, if_pos (by simp)]
end
end Go.Cz.Fo
