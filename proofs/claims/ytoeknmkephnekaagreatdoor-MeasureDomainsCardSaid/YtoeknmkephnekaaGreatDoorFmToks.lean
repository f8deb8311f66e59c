/-
  Tokens of formulas, and what the parser makes of them; plain Lean.
-/
import Derived.Test.YtoeknmkephnekaaGreatDoorFmLaws
import Derived.Lib.ItoaMem
namespace Go.Cz.Fo
set_option linter.unusedVariables false
set_option linter.unusedSimpArgs false
open Go.Cz.Lx
abbrev KTok := Nat × Nat × Bytes
def strip (t : Tok) : KTok := (t.kind, t.num, t.text)
def kName (s : Bytes) : KTok := (1, 0, s)
def kSym (s : Bytes) : KTok := (4, 0, s)
def kNum (n : Int) : KTok := (2, n.toNat, Lib.itoa n)
def parK (b : Bool) (l : List KTok) : List KTok := if b = true then kSym [40] :: (l ++ [kSym [41]]) else l
def joinK (sep : KTok) : List (List KTok) → List KTok | [] => [] | [a] => a | a :: b :: r => a ++ (sep :: joinK sep (b :: r))
mutual
/-- The tokens of a formula that can be written. -/
def toksF : Fm → List KTok
  | .mk op name m n ks =>
    if op = 1 then [kName wTrue] else if op = 2 then [kName wFalse]
    else if op = 3 then [kName name, kSym (symB m), kNum n]
    else if op = 4 then kName wNot :: joinK (kName []) ((toksKids op ks).take 1)
    else if op = 5 then joinK (kName wAnd) (toksKids op ks)
    else joinK (kName wOr) (toksKids op ks)
def toksKids (op : Int) : List Fm → List (List KTok) | [] => [] | k :: r => parK (parB op k.op) (toksF k) :: toksKids op r
end
theorem toksKids_eq (op : Int) : ∀ ks : List Fm, toksKids op ks = ks.map fun k => parK (parB op k.op) (toksF k)
  | [] => by rw [toksKids]; rfl
  | k :: r => by rw [toksKids, toksKids_eq op r]; rfl
theorem textKids_eq (dec : Int → Bytes) (op : Int) : ∀ ks : List Fm, textKids dec op ks = ks.map fun k => parT (parB op k.op) (textF dec k)
  | [] => by rw [textKids]; rfl
  | k :: r => by rw [textKids, textKids_eq dec op r]; rfl
theorem joinK_cons (sep : KTok) : ∀ (a : List KTok) (l : List (List KTok)), joinK sep (a :: l) = a ++ l.flatMap fun x => sep :: x
  | a, [] => by simp [joinK]
  | a, b :: r => by rw [joinK, joinK_cons sep b r]; simp
/-- A formula that can be written, but for its size. -/
abbrev Wr (f : Fm) : Prop := firstF badE f = 0
theorem Wr.kid {f k : Fm} (h : Wr f) (hk : k ∈ f.kids) : Wr k := ((firstF_zero f).1 h).2 k hk
theorem formed_cases {f : Fm} (h : formedB f = true) : (f.op = 3 ∧ f.kids = [] ∧ 1 ≤ f.cmp ∧ f.cmp ≤ 6 ∧ nameB f.name = true ∧ keyB f.name = false) ∨
    ((f.name = [] ∧ f.cmp = 0 ∧ f.num = 0) ∧ (((f.op = 1 ∨ f.op = 2) ∧ f.kids = []) ∨ (f.op = 4 ∧ ∃ k, f.kids = [k]) ∨ ((f.op = 5 ∨ f.op = 6) ∧ ∃ a b r, f.kids = a :: b :: r))) := by
  unfold formedB at h
  split at h
  · rename_i h3
    simp only [Bool.and_eq_true, decide_eq_true_eq, Bool.not_eq_true'] at h
    exact .inl ⟨h3, List.length_eq_zero_iff.1 h.1, h.2.1, h.2.2.1, h.2.2.2.1, h.2.2.2.2⟩
  split at h
  · simp at h
  rename_i h3 hb
  simp only [ne_eq, not_or, Decidable.not_not] at hb
  refine .inr ⟨hb, ?_⟩
  split at h
  · rename_i h1
    exact .inl ⟨h1, List.length_eq_zero_iff.1 (by simpa using h)⟩
  split at h
  · rename_i h4
    simp only [decide_eq_true_eq] at h
    obtain ⟨k, hk⟩ := List.length_eq_one_iff.1 h
    exact .inr (.inl ⟨h4, k, hk⟩)
  · simp only [decide_eq_true_eq] at h
    refine .inr (.inr ⟨h.1, ?_⟩)
    match hk : f.kids, h.2 with
    | a :: b :: r, _ => exact ⟨a, b, r, rfl⟩
    | [a], h2 => simp at h2
    | [], h2 => simp at h2
theorem Wr.node {f : Fm} (h : Wr f) : formedB f = true ∧ (f.op = 3 → 0 ≤ f.num ∧ f.num ≤ 1000000) := by
  have h1 := ((firstF_zero f).1 h).1
  unfold badE at h1
  split at h1
  · simp at h1
  · rename_i h2
    simp only [not_or, not_and, Bool.not_eq_false] at h2
    exact ⟨h2.1, fun h3 => by have := h2.2 h3; omega⟩
/-- The forms of a formula that can be written. -/
theorem Wr.forms {f : Fm} (h : Wr f) : (∃ s m n, f = .mk 3 s m n [] ∧ 1 ≤ m ∧ m ≤ 6 ∧ nameB s = true ∧ keyB s = false ∧ 0 ≤ n ∧ n ≤ 1000000) ∨ f = .mk 1 [] 0 0 [] ∨ f = .mk 2 [] 0 0 [] ∨ (∃ k, f = .mk 4 [] 0 0 [k]) ∨
    (∃ a b r, f = .mk 5 [] 0 0 (a :: b :: r)) ∨ (∃ a b r, f = .mk 6 [] 0 0 (a :: b :: r)) := by
  obtain ⟨hf, hn⟩ := h.node
  obtain ⟨op, name, m, n, ks⟩ := f
  rcases formed_cases hf with ⟨h1, h2, h3, h4, h5, h6⟩ | ⟨⟨h1, h2, h3⟩, h | h | h⟩
  · simp only [Fm.op, Fm.kids, Fm.cmp, Fm.name, Fm.num] at *
    subst h1 h2
    exact .inl ⟨name, m, n, rfl, h3, h4, h5, h6, (hn rfl).1, (hn rfl).2⟩
  · simp only [Fm.op, Fm.kids, Fm.cmp, Fm.name, Fm.num] at *
    obtain ⟨h4 | h4, h5⟩ := h
    · subst h1 h2 h3 h4 h5; exact .inr (.inl rfl)
    · subst h1 h2 h3 h4 h5; exact .inr (.inr (.inl rfl))
  · simp only [Fm.op, Fm.kids, Fm.cmp, Fm.name, Fm.num] at *
    obtain ⟨h4, k, h5⟩ := h
    subst h1 h2 h3 h4 h5
    exact .inr (.inr (.inr (.inl ⟨k, rfl⟩)))
  · simp only [Fm.op, Fm.kids, Fm.cmp, Fm.name, Fm.num] at *
    obtain ⟨h4 | h4, a, b, r, h5⟩ := h
    · subst h1 h2 h3 h4 h5; exact .inr (.inr (.inr (.inr (.inl ⟨a, b, r, rfl⟩))))
    · subst h1 h2 h3 h4 h5; exact .inr (.inr (.inr (.inr (.inr ⟨a, b, r, rfl⟩))))
/-- What comes next is not a word. -/
def Off (w : Bytes) (r : List Tok) : Prop := ∀ t r', r = t :: r' → ¬ (t.kind = 1 ∧ t.text = w)
theorem more_ok {w : Bytes} {part : List Tok → Res} {C : List Tok → Prop} {tk : Fm → List KTok} {M : Nat} (hC : ∀ t r, strip t = kName w → C (t :: r)) : ∀ (ks : List Fm) (n : Nat) (ts r : List Tok),
    (∀ k ∈ ks, ∀ ts r, ts.map strip = tk k → ts.length < M → C r → part (ts ++ r) = .ok (k, r)) → ts.map strip = (ks.flatMap fun k => kName w :: tk k) → ts.length < M → ks.length < n → Off w r → C r → moreF w part n (ts ++ r) = .ok (ks, r)
  | [], n, ts, r, _, ht, _, hn, ho, _ => by
    have : ts = [] := by simpa using ht
    subst this
    cases n with
    | zero => simp at hn
    | succ n =>
      cases r with
      | nil => rfl
      | cons t r =>
        show moreF w part (n + 1) (t :: r) = _
        simp only [moreF]
        rw [if_neg (ho t r rfl)]
  | k :: ks, n, ts, r, hp, ht, hM, hn, ho, hc => by
    rw [List.flatMap_cons, List.cons_append, List.map_eq_cons_iff] at ht
    obtain ⟨t, ts', rfl, h1, h2⟩ := ht
    obtain ⟨t1, t2, rfl, h3, h4⟩ := List.map_eq_append_iff.1 h2
    cases n with
    | zero => simp at hn
    | succ n =>
      have hk : t.kind = 1 ∧ t.text = w := by
        simp only [strip, kName, Prod.mk.injEq] at h1
        exact ⟨h1.1, h1.2.2⟩
      simp only [List.length_cons, List.length_append] at hM hn
      have hC2 : C (t2 ++ r) := by
        cases ks with
        | nil =>
          have : t2 = [] := by simpa using h4
          subst this
          exact hc
        | cons k2 ks =>
          rw [List.flatMap_cons, List.cons_append, List.map_eq_cons_iff] at h4
          obtain ⟨u, t3, rfl, h5, -⟩ := h4
          exact hC u _ h5
      have h5 := hp k (by simp) t1 (t2 ++ r) h3 (by omega) hC2
      have h6 := more_ok hC ks n t2 r (fun k hk => hp k (by simp [hk])) h4 (by omega) (by omega) ho hc
      rw [List.cons_append, List.append_assoc]
      simp only [moreF]
      rw [if_pos hk, h5]
      simp only [h6]
theorem flat_long {w : Bytes} {tk : Fm → List KTok} : ∀ ks : List Fm, ks.length ≤ (ks.flatMap fun k => kName w :: tk k).length
  | [] => by simp
  | k :: ks => by have := flat_long (w := w) (tk := tk) ks; simp only [List.flatMap_cons, List.length_append, List.length_cons]; omega
theorem parts_ok {w : Bytes} {op : Int} {part : List Tok → Res} {C : List Tok → Prop} {tk : Fm → List KTok} {M : Nat} (hC : ∀ t r, strip t = kName w → C (t :: r)) (k : Fm) (ks : List Fm) (ts r : List Tok)
    (hp : ∀ q ∈ k :: ks, ∀ ts r, ts.map strip = tk q → ts.length < M → C r → part (ts ++ r) = .ok (q, r)) (ht : ts.map strip = joinK (kName w) ((k :: ks).map tk)) (hM : ts.length < M) (ho : Off w r) (hc : C r) :
    partsF op w part (ts ++ r) = .ok (if ks.isEmpty then k else .mk op [] 0 0 (k :: ks), r) := by
  rw [List.map_cons, joinK_cons, List.flatMap_map] at ht
  obtain ⟨t1, t2, rfl, h3, h4⟩ := List.map_eq_append_iff.1 ht
  rw [List.length_append] at hM
  have hC2 : C (t2 ++ r) := by
    cases ks with
    | nil =>
      have : t2 = [] := by simpa using h4
      subst this
      exact hc
    | cons k2 ks =>
      rw [List.flatMap_cons, List.cons_append, List.map_eq_cons_iff] at h4
      obtain ⟨u, t3, rfl, h5, -⟩ := h4
      exact hC u _ h5
  have h5 := hp k (by simp) t1 (t2 ++ r) h3 (by omega) hC2
  have h6 := congrArg List.length h4
  rw [List.length_map] at h6
  have h7 := flat_long (w := w) (tk := tk) ks
  have h8 := more_ok hC ks ((t2 ++ r).length + 1) t2 r (fun q hq => hp q (by simp [hq])) h4 (by omega) (by rw [List.length_append]; omega) ho hc
  unfold partsF
  rw [List.append_assoc, h5]
  simp only [h8]
def toksOne (f : Fm) : List KTok := parK (parB 4 f.op) (toksF f)
def toksAll (f : Fm) : List KTok := parK (parB 6 f.op) (toksF f)
theorem par5 (k : Int) : parB 5 k = parB 4 k := by simp [parB]
theorem toks5 (ks : List Fm) : toksKids 5 ks = ks.map toksOne := by
  rw [toksKids_eq]
  exact List.map_congr_left fun k _ => by rw [par5]; rfl
theorem toks6 (ks : List Fm) : toksKids 6 ks = ks.map toksAll := toksKids_eq 6 ks
section
variable (fin : Int)
def OneOk (f : Fm) : Prop := ∀ (n : Nat) (ts r : List Tok), ts.map strip = toksOne f → ts.length < n → oneF fin n (ts ++ r) = .ok (f, r)
def AllOk (f : Fm) : Prop := ∀ (n : Nat) (ts r : List Tok), ts.map strip = toksAll f → ts.length < n → Off wAnd r → partsF 5 wAnd (oneF fin n) (ts ++ r) = .ok (f, r)
def EitherOk (f : Fm) : Prop := ∀ (n : Nat) (ts r : List Tok), ts.map strip = toksF f → ts.length < n → Off wOr r → Off wAnd r → partsF 6 wOr (partsF 5 wAnd (oneF fin n)) (ts ++ r) = .ok (f, r)
theorem off_kind {t : Tok} {r : List Tok} {w : Bytes} (h : t.kind ≠ 1) : Off w (t :: r) := fun t' r' e => by
  cases e
  exact fun hx => h hx.1
theorem off_text {t : Tok} {r : List Tok} {w : Bytes} (h : t.text ≠ w) : Off w (t :: r) := fun t' r' e => by
  cases e
  exact fun hx => h hx.2
theorem off_nil {w : Bytes} : Off w [] := fun t r e => by cases e
theorem all_of_one {f : Fm} (h5 : f.op ≠ 5) (h : OneOk fin f) : AllOk fin f := fun n ts r ht hl ho => by
  have ht' : ts.map strip = toksOne f := by
    rw [ht]
    unfold toksAll toksOne parB
    simp [h5]
  have := parts_ok (op := 5) (w := wAnd) (C := fun _ => True) (tk := toksOne) (M := n) (part := oneF fin n) (fun _ _ _ => trivial) f [] ts r (fun q hq ts r h1 h2 _ => by
    obtain rfl : q = f := by simpa using hq
    exact h n ts r h1 h2) (by simpa [joinK] using ht') hl ho trivial
  simpa using this
theorem either_of_all {f : Fm} (h6 : f.op ≠ 6) (h : AllOk fin f) : EitherOk fin f := fun n ts r ht hl ho ha => by
  have ht' : ts.map strip = toksAll f := by
    rw [ht]
    unfold toksAll parB parK
    simp [h6]
  have := parts_ok (op := 6) (w := wOr) (C := Off wAnd) (tk := toksAll) (M := n) (part := partsF 5 wAnd (oneF fin n)) (fun t r ht => off_text (by
    simp only [strip, kName, Prod.mk.injEq] at ht
    rw [ht.2.2]
    decide)) f [] ts r (fun q hq ts r h1 h2 h3 => by
    obtain rfl : q = f := by simpa using hq
    exact h n ts r h1 h2 h3) (by simpa [joinK] using ht') hl ho ha
  simpa using this
theorem sym_back : ∀ {m : Int}, 1 ≤ m → m ≤ 6 → (symI (symB m) : Int) = m ∧ symI (symB m) ≠ 0 := fun {m} h1 h6 => by
  have : m = 1 ∨ m = 2 ∨ m = 3 ∨ m = 4 ∨ m = 5 ∨ m = 6 := by omega
  rcases this with rfl | rfl | rfl | rfl | rfl | rfl <;> decide
theorem one_paren {f : Fm} (h : f.op = 5 ∨ f.op = 6) (he : EitherOk fin f) : OneOk fin f := fun n ts r ht hl => by
  have hp : toksOne f = kSym [40] :: (toksF f ++ [kSym [41]]) := by
    unfold toksOne parB parK
    rcases h with h | h <;> simp [h]
  rw [hp, List.map_eq_cons_iff] at ht
  obtain ⟨t, ts', rfl, h1, h2⟩ := ht
  obtain ⟨t1, t2, rfl, h3, h4⟩ := List.map_eq_append_iff.1 h2
  rw [List.map_eq_singleton_iff] at h4
  obtain ⟨u, rfl, h5⟩ := h4
  cases n with
  | zero => simp at hl
  | succ n =>
    simp only [List.length_cons, List.length_append, List.length_nil] at hl
    simp only [strip, kSym, Prod.mk.injEq] at h1 h5
    have h6 := he n t1 (u :: r) h3 (by omega) (off_kind (by rw [h5.1]; decide)) (off_kind (by rw [h5.1]; decide))
    have e : t :: (t1 ++ [u]) ++ r = t :: (t1 ++ (u :: r)) := by simp
    rw [e]
    simp only [oneF]
    rw [if_neg (by rw [h1.1]; simp), if_neg (by rw [h1.1]; simp), if_neg (by rw [h1.1]; simp), if_pos ⟨h1.1, h1.2.2⟩, h6]
    simp only
    rw [if_pos ⟨h5.1, h5.2.2⟩]
theorem key_not {s : Bytes} (h : keyB s = false) : s ≠ wNot ∧ s ≠ wTrue ∧ s ≠ wFalse := by
  refine ⟨?_, ?_, ?_⟩ <;> (rintro rfl; revert h; decide)
theorem name_some {s : Bytes} (h : nameB s = true) : s ≠ [] := by rintro rfl; revert h; decide
/-- The tokens of a formula are read as the formula. -/
theorem reads (f : Fm) : Wr f → OneOk fin f ∧ AllOk fin f ∧ EitherOk fin f := by
  refine Fm.induct (P := fun f => Wr f → OneOk fin f ∧ AllOk fin f ∧ EitherOk fin f) ?_ f
  clear f
  intro f ih hw
  have hk : ∀ k ∈ f.kids, OneOk fin k ∧ AllOk fin k ∧ EitherOk fin k := fun k hk => ih k hk (hw.kid hk)
  have up : f.op ≠ 5 → f.op ≠ 6 → OneOk fin f → OneOk fin f ∧ AllOk fin f ∧ EitherOk fin f := fun h5 h6 h => by
    have ha := all_of_one fin h5 h
    exact ⟨h, ha, either_of_all fin h6 ha⟩
  rcases hw.forms with ⟨s, m, n, rfl, hm1, hm6, hs, hy, hn0, hn1⟩ | rfl | rfl | ⟨k, rfl⟩ | ⟨a, b, r, rfl⟩ | ⟨a, b, r, rfl⟩
  · refine up (by simp [Fm.op]) (by simp [Fm.op]) fun N ts r ht hl => ?_
    have hp : toksOne (.mk 3 s m n []) = [kName s, kSym (symB m), kNum n] := by
      unfold toksOne parB parK
      simp [Fm.op, toksF]
    rw [hp, List.map_eq_cons_iff] at ht
    obtain ⟨t1, ts', rfl, h1, ht⟩ := ht
    rw [List.map_eq_cons_iff] at ht
    obtain ⟨t2, ts', rfl, h2, ht⟩ := ht
    rw [List.map_eq_singleton_iff] at ht
    obtain ⟨t3, rfl, h3⟩ := ht
    cases N with
    | zero => simp at hl
    | succ N =>
      simp only [strip, kName, kSym, kNum, Prod.mk.injEq] at h1 h2 h3
      obtain ⟨y1, y2, y3⟩ := key_not hy
      obtain ⟨b1, b2⟩ := sym_back hm1 hm6
      show oneF fin (N + 1) (t1 :: t2 :: t3 :: r) = _
      simp only [oneF]
      rw [if_neg (by rw [h1.2.2]; simp [y1]), if_neg (by rw [h1.2.2]; simp [y2]), if_neg (by rw [h1.2.2]; simp [y3]), if_neg (by rw [h1.1]; simp), if_neg (by rw [h1.1, h1.2.2, hy]; simp [name_some hs])]
      simp only [testF]
      rw [if_neg (by rw [h2.1, h2.2.2]; simp [b2]), if_neg (by rw [h3.1]; simp), if_neg (by rw [h3.2.1]; omega), h1.2.2, h2.2.2, b1, h3.2.1]
      rw [Int.toNat_of_nonneg hn0]
  · refine up (by simp [Fm.op]) (by simp [Fm.op]) fun N ts r ht hl => ?_
    have hp : toksOne (.mk 1 [] 0 0 []) = [kName wTrue] := by
      unfold toksOne parB parK
      simp [Fm.op, toksF]
    rw [hp, List.map_eq_singleton_iff] at ht
    obtain ⟨t1, rfl, h1⟩ := ht
    cases N with
    | zero => simp at hl
    | succ N =>
      simp only [strip, kName, Prod.mk.injEq] at h1
      show oneF fin (N + 1) (t1 :: r) = _
      simp only [oneF]
      rw [if_neg (by rw [h1.2.2]; simp [wNot, wTrue]), if_pos ⟨h1.1, h1.2.2⟩]
  · refine up (by simp [Fm.op]) (by simp [Fm.op]) fun N ts r ht hl => ?_
    have hp : toksOne (.mk 2 [] 0 0 []) = [kName wFalse] := by
      unfold toksOne parB parK
      simp [Fm.op, toksF]
    rw [hp, List.map_eq_singleton_iff] at ht
    obtain ⟨t1, rfl, h1⟩ := ht
    cases N with
    | zero => simp at hl
    | succ N =>
      simp only [strip, kName, Prod.mk.injEq] at h1
      show oneF fin (N + 1) (t1 :: r) = _
      simp only [oneF]
      rw [if_neg (by rw [h1.2.2]; simp [wNot, wFalse]), if_neg (by rw [h1.2.2]; simp [wTrue, wFalse]), if_pos ⟨h1.1, h1.2.2⟩]
  · refine up (by simp [Fm.op]) (by simp [Fm.op]) fun N ts r ht hl => ?_
    have hp : toksOne (.mk 4 [] 0 0 [k]) = kName wNot :: toksOne k := by
      unfold toksOne
      rw [show parB 4 (Fm.op (.mk 4 [] 0 0 [k])) = false by simp [parB, Fm.op], toksF, toksKids, toksKids]
      simp [parK, joinK]
    rw [hp, List.map_eq_cons_iff] at ht
    obtain ⟨t1, ts', rfl, h1, ht⟩ := ht
    cases N with
    | zero => simp at hl
    | succ N =>
      simp only [strip, kName, Prod.mk.injEq] at h1
      simp only [List.length_cons] at hl
      rw [List.cons_append]
      simp only [oneF]
      rw [if_pos ⟨h1.1, h1.2.2⟩, (hk k (by simp [Fm.kids])).1 N ts' r ht (by omega)]
  · have ha : AllOk fin (.mk 5 [] 0 0 (a :: b :: r)) := fun N ts r2 ht hl ho => by
      have hp : toksAll (.mk 5 [] 0 0 (a :: b :: r)) = joinK (kName wAnd) ((a :: b :: r).map toksOne) := by
        unfold toksAll
        rw [show parB 6 (Fm.op (.mk 5 [] 0 0 (a :: b :: r))) = false by simp [parB, Fm.op], toksF, toks5]
        simp [parK]
      rw [hp] at ht
      have := parts_ok (op := 5) (w := wAnd) (C := fun _ => True) (tk := toksOne) (M := N) (part := oneF fin N) (fun _ _ _ => trivial) a (b :: r) ts r2 (fun q hq ts r h1 h2 _ => (hk q (by simpa [Fm.kids] using hq)).1 N ts r h1 h2) ht hl ho trivial
      simpa using this
    have he := either_of_all fin (by simp [Fm.op]) ha
    exact ⟨one_paren fin (.inl rfl) he, ha, he⟩
  · have he : EitherOk fin (.mk 6 [] 0 0 (a :: b :: r)) := fun N ts r2 ht hl ho hn => by
      have hp : toksF (.mk 6 [] 0 0 (a :: b :: r)) = joinK (kName wOr) ((a :: b :: r).map toksAll) := by
        rw [toksF, toks6]
        simp
      rw [hp] at ht
      have := parts_ok (op := 6) (w := wOr) (C := Off wAnd) (tk := toksAll) (M := N) (part := partsF 5 wAnd (oneF fin N)) (fun t r ht => off_text (by
        simp only [strip, kName, Prod.mk.injEq] at ht
        rw [ht.2.2]
        decide)) a (b :: r) ts r2 (fun q hq ts r h1 h2 h3 => (hk q (by simpa [Fm.kids] using hq)).2.1 N ts r h1 h2 h3) ht hl ho hn
      simpa using this
    have ho := one_paren fin (.inr rfl) he
    exact ⟨ho, all_of_one fin (by simp [Fm.op]) ho, he⟩
end
theorem parse_toks {l : Bytes} {f : Fm} {ts : List Tok} (hl : lexAll l = (ts, 0, 0)) (hs : ts.map strip = toksF f) (hw : Wr f) (hL : largeB f = false) : parseF l = (f, 0, 0) := by
  have h := (reads l.length f hw).2.2 (ts.length + 1) ts [] hs (by omega) off_nil off_nil
  rw [List.append_nil] at h
  unfold parseF eitherF
  rw [hl]
  simp only [ne_eq, not_true_eq_false, if_false, h, hL]
  rfl
/-- Names are names. -/
def NameOk (ts : List Tok) : Prop := ∀ t ∈ ts, t.kind = 1 → nameB t.text = true
def Keeps (part : List Tok → Res) : Prop := ∀ ts f r, NameOk ts → part ts = .ok (f, r) → Wr f ∧ NameOk r
theorem more_wr {w : Bytes} {part : List Tok → Res} (hp : Keeps part) : ∀ (n : Nat) (ts : List Tok) (ks : List Fm) (r : List Tok), NameOk ts → moreF w part n ts = .ok (ks, r) → (∀ k ∈ ks, Wr k) ∧ NameOk r
  | 0, ts, ks, r, ht, h => by
    simp only [moreF, Except.ok.injEq, Prod.mk.injEq] at h
    obtain ⟨rfl, rfl⟩ := h
    exact ⟨by simp, ht⟩
  | n + 1, [], ks, r, ht, h => by
    simp only [moreF, Except.ok.injEq, Prod.mk.injEq] at h
    obtain ⟨rfl, rfl⟩ := h
    exact ⟨by simp, ht⟩
  | n + 1, t :: ts, ks, r, ht, h => by
    simp only [moreF] at h
    have ht2 : NameOk ts := fun u hu => ht u (by simp [hu])
    split at h
    · split at h
      · cases h
      · rename_i k r2 h1
        obtain ⟨h2, h3⟩ := hp _ _ _ ht2 h1
        split at h
        · cases h
        · rename_i ks2 r3 h4
          obtain ⟨h5, h6⟩ := more_wr hp n _ _ _ h3 h4
          simp only [Except.ok.injEq, Prod.mk.injEq] at h
          obtain ⟨rfl, rfl⟩ := h
          refine ⟨fun q hq => ?_, h6⟩
          rcases List.mem_cons.1 hq with rfl | hq
          · exact h2
          · exact h5 q hq
    · simp only [Except.ok.injEq, Prod.mk.injEq] at h
      obtain ⟨rfl, rfl⟩ := h
      exact ⟨by simp, ht⟩
theorem wr_of {f : Fm} (h1 : formedB f = true) (h2 : f.op = 3 → 0 ≤ f.num ∧ f.num ≤ 1000000) (hk : ∀ k ∈ f.kids, Wr k) : Wr f := by
  show firstF badE f = 0
  rw [firstF_zero]
  refine ⟨?_, hk⟩
  unfold badE
  rw [if_neg]
  simp only [h1, not_or, not_and]
  refine ⟨by simp, fun h => ?_⟩
  have := h2 h
  omega
theorem parts_wr {op : Int} {w : Bytes} {part : List Tok → Res} (ho : op = 5 ∨ op = 6) (hp : Keeps part) : Keeps (partsF op w part) := fun ts f r ht h => by
  unfold partsF at h
  split at h
  · cases h
  · rename_i k r2 h1
    obtain ⟨h2, h3⟩ := hp _ _ _ ht h1
    split at h
    · cases h
    · rename_i ks r3 h4
      obtain ⟨h5, h6⟩ := more_wr hp _ _ _ _ h3 h4
      simp only [Except.ok.injEq, Prod.mk.injEq] at h
      obtain ⟨rfl, rfl⟩ := h
      refine ⟨?_, h6⟩
      cases ks with
      | nil => exact h2
      | cons k2 ks =>
        refine wr_of ?_ (fun h => ?_) fun q hq => ?_
        · simp only [List.isEmpty_cons, Bool.false_eq_true, if_false]
          rw [formedB_mk]
          rw [if_neg (by omega), if_neg (by simp), if_neg (by omega), if_neg (by omega)]
          exact decide_eq_true ⟨ho, by simp⟩
        · simp only [List.isEmpty_cons, Bool.false_eq_true, if_false, Fm.op] at h
          omega
        · simp only [List.isEmpty_cons, Bool.false_eq_true, if_false, Fm.kids] at hq
          rcases List.mem_cons.1 hq with rfl | hq
          · exact h2
          · exact h5 q hq
theorem symI_le (s : Bytes) : symI s ≤ 6 := by unfold symI; (repeat' split) <;> omega
theorem test_wr {fin : Int} {s : Bytes} {ts : List Tok} {f : Fm} {r : List Tok} (hs : nameB s = true) (hk : keyB s = false) (ht : NameOk ts) (h : testF fin s ts = .ok (f, r)) : Wr f ∧ NameOk r := by
  match ts with
  | [] => simp [testF] at h
  | c :: ts =>
    simp only [testF] at h
    split at h
    · cases h
    rename_i h1
    match ts with
    | [] => simp at h
    | m :: r2 =>
      simp only at h
      split at h
      · cases h
      split at h
      · cases h
      rename_i h3 h4
      simp only [Except.ok.injEq, Prod.mk.injEq] at h
      obtain ⟨rfl, rfl⟩ := h
      simp only [not_or] at h1
      have h5 := symI_le c.text
      refine ⟨wr_of ?_ (fun _ => ?_) (by simp [Fm.kids]), fun u hu => ht u (by simp [hu])⟩
      · rw [formedB_mk]
        simp [hs, hk]
        omega
      · simp only [Fm.num]; omega
/-- What the parser makes can be written. -/
theorem one_wr {fin : Int} : ∀ n : Nat, Keeps (oneF fin n)
  | 0 => fun ts f r ht h => by simp [oneF] at h
  | n + 1 => fun ts f r ht h => by
    match ts with
    | [] => simp [oneF] at h
    | t :: ts =>
      have ht2 : NameOk ts := fun u hu => ht u (by simp [hu])
      simp only [oneF] at h
      split at h
      · split at h
        · cases h
        · rename_i k r2 h1
          obtain ⟨h2, h3⟩ := one_wr n _ _ _ ht2 h1
          simp only [Except.ok.injEq, Prod.mk.injEq] at h
          obtain ⟨rfl, rfl⟩ := h
          exact ⟨wr_of (by rw [formedB_mk]; simp) (by simp [Fm.op]) (by simpa [Fm.kids] using h2), h3⟩
      split at h
      · simp only [Except.ok.injEq, Prod.mk.injEq] at h
        obtain ⟨rfl, rfl⟩ := h
        exact ⟨wr_of (by rw [formedB_mk]; simp) (by simp [Fm.op]) (by simp [Fm.kids]), ht2⟩
      split at h
      · simp only [Except.ok.injEq, Prod.mk.injEq] at h
        obtain ⟨rfl, rfl⟩ := h
        exact ⟨wr_of (by rw [formedB_mk]; simp) (by simp [Fm.op]) (by simp [Fm.kids]), ht2⟩
      split at h
      · split at h
        · cases h
        · cases h
        · rename_i g u r2 h1
          obtain ⟨h2, h3⟩ := parts_wr (.inr rfl) (parts_wr (.inl rfl) (one_wr n)) _ _ _ ht2 h1
          split at h
          · simp only [Except.ok.injEq, Prod.mk.injEq] at h
            obtain ⟨rfl, rfl⟩ := h
            exact ⟨h2, fun u hu => h3 u (by simp [hu])⟩
          · cases h
      split at h
      · cases h
      · rename_i h5
        simp only [not_or, Decidable.not_not, Bool.not_eq_true] at h5
        exact test_wr (ht t (by simp) h5.1) h5.2.2 ht2 h
def Fails (part : List Tok → Res) : Prop := ∀ ts e, part ts = .error e → e.1 = 5 ∨ e.1 = 6 ∨ e.1 = 10
theorem more_err {w : Bytes} {part : List Tok → Res} (hp : Fails part) : ∀ (n : Nat) (ts : List Tok) (e : Nat × Int), moreF w part n ts = .error e → e.1 = 5 ∨ e.1 = 6 ∨ e.1 = 10
  | 0, ts, e, h => by simp [moreF] at h
  | n + 1, [], e, h => by simp [moreF] at h
  | n + 1, t :: ts, e, h => by
    simp only [moreF] at h
    split at h
    · split at h
      · rename_i e' h1
        simp only [Except.error.injEq] at h
        exact h ▸ hp _ _ h1
      · split at h
        · rename_i e' h1
          simp only [Except.error.injEq] at h
          exact h ▸ more_err hp n _ _ h1
        · cases h
    · cases h
theorem parts_err {op : Int} {w : Bytes} {part : List Tok → Res} (hp : Fails part) : Fails (partsF op w part) := fun ts e h => by
  unfold partsF at h
  split at h
  · rename_i e' h1
    simp only [Except.error.injEq] at h
    exact h ▸ hp _ _ h1
  · split at h
    · rename_i e' h1
      simp only [Except.error.injEq] at h
      exact h ▸ more_err hp _ _ _ h1
    · cases h
theorem test_err {fin : Int} {s : Bytes} {ts : List Tok} {e : Nat × Int} (h : testF fin s ts = .error e) : e.1 = 5 ∨ e.1 = 6 ∨ e.1 = 10 := by
  unfold testF at h
  split at h
  · simp only [Except.error.injEq] at h; subst h; simp
  split at h
  · simp only [Except.error.injEq] at h; subst h; simp
  split at h
  · simp only [Except.error.injEq] at h; subst h; simp
  split at h
  · simp only [Except.error.injEq] at h; subst h; simp
  split at h
  · simp only [Except.error.injEq] at h; subst h; simp
  · cases h
theorem one_err {fin : Int} : ∀ n : Nat, Fails (oneF fin n)
  | 0 => fun ts e h => by simp only [oneF, Except.error.injEq] at h; subst h; simp
  | n + 1 => fun ts e h => by
    match ts with
    | [] => simp only [oneF, Except.error.injEq] at h; subst h; simp
    | t :: ts =>
      simp only [oneF] at h
      split at h
      · split at h
        · rename_i e' h1
          simp only [Except.error.injEq] at h
          exact h ▸ one_err n _ _ h1
        · cases h
      split at h
      · cases h
      split at h
      · cases h
      split at h
      · split at h
        · rename_i e' h1
          simp only [Except.error.injEq] at h
          exact h ▸ parts_err (parts_err (one_err n)) _ _ h1
        · simp only [Except.error.injEq] at h; subst h; simp
        · split at h
          · cases h
          · simp only [Except.error.injEq] at h; subst h; simp
      split at h
      · simp only [Except.error.injEq] at h; subst h; simp
      · exact test_err h
theorem either_err {fin : Int} (n : Nat) : Fails (eitherF fin n) := parts_err (parts_err (one_err n))
theorem either_wr {fin : Int} (n : Nat) : Keeps (eitherF fin n) := parts_wr (.inr rfl) (parts_wr (.inl rfl) (one_wr n))
end Go.Cz.Fo
