/-
  The offsets of errors lie in the text; plain Lean.
-/
import Derived.Test.YtoeknmkephnekaaGreatDoorFmLexes
namespace Go.Cz.Fo
set_option linter.unusedVariables false
set_option linter.unusedSimpArgs false
open Go.Cz.Lx
/-- Offsets lie in a text. -/
def InT (B : Nat) (ts : List Tok) : Prop := ∀ t ∈ ts, t.pos ≤ B
def PosOk (B : Nat) (part : List Tok → Res) : Prop := ∀ ts, InT B ts → (∀ f r, part ts = .ok (f, r) → InT B r) ∧ (∀ e, part ts = .error e → 0 ≤ e.2 ∧ e.2 ≤ (B : Int))
section
variable {B : Nat} {part : List Tok → Res} {w : Bytes} {fin : Int}
theorem InT.tail {t : Tok} {ts : List Tok} (h : InT B (t :: ts)) : InT B ts := fun u hu => h u (by simp [hu])
theorem InT.head {t : Tok} {ts : List Tok} (h : InT B (t :: ts)) : t.pos ≤ B := h t (by simp)
theorem more_pos (hp : PosOk B part) : ∀ (n : Nat) (ts : List Tok), InT B ts → (∀ ks r, moreF w part n ts = .ok (ks, r) → InT B r) ∧ (∀ e, moreF w part n ts = .error e → 0 ≤ e.2 ∧ e.2 ≤ (B : Int))
  | 0, ts, ht => by
    refine ⟨fun ks r h => ?_, fun e h => by simp [moreF] at h⟩
    simp only [moreF, Except.ok.injEq, Prod.mk.injEq] at h
    obtain ⟨rfl, rfl⟩ := h
    exact ht
  | n + 1, [], ht => by
    refine ⟨fun ks r h => ?_, fun e h => by simp [moreF] at h⟩
    simp only [moreF, Except.ok.injEq, Prod.mk.injEq] at h
    obtain ⟨rfl, rfl⟩ := h
    exact ht
  | n + 1, t :: ts, ht => by
    simp only [moreF]
    by_cases hc : t.kind = 1 ∧ t.text = w
    · rw [if_pos hc]
      obtain ⟨p1, p2⟩ := hp ts ht.tail
      rcases hq : part ts with e | ⟨f, r⟩
      · refine ⟨fun ks r h => by simp at h, fun e2 h => ?_⟩
        simp only [Except.error.injEq] at h
        subst h
        exact p2 _ hq
      · obtain ⟨i1, i2⟩ := more_pos hp n r (p1 _ _ hq)
        simp only
        rcases hm : moreF w part n r with e | ⟨ks, r2⟩
        · refine ⟨fun ks r h => by simp at h, fun e2 h => ?_⟩
          simp only [Except.error.injEq] at h
          subst h
          exact i2 _ hm
        · refine ⟨fun ks' r' h => ?_, fun e h => by simp at h⟩
          simp only [Except.ok.injEq, Prod.mk.injEq] at h
          obtain ⟨rfl, rfl⟩ := h
          exact i1 _ _ hm
    · rw [if_neg hc]
      refine ⟨fun ks r h => ?_, fun e h => by simp at h⟩
      simp only [Except.ok.injEq, Prod.mk.injEq] at h
      obtain ⟨rfl, rfl⟩ := h
      exact ht
theorem parts_pos {op : Int} (hp : PosOk B part) : PosOk B (partsF op w part) := fun ts ht => by
  obtain ⟨p1, p2⟩ := hp ts ht
  unfold partsF
  rcases hq : part ts with e | ⟨f, r⟩
  · refine ⟨fun ks r h => by simp at h, fun e2 h => ?_⟩
    simp only [Except.error.injEq] at h
    subst h
    exact p2 _ hq
  · obtain ⟨i1, i2⟩ := more_pos (w := w) hp (r.length + 1) r (p1 _ _ hq)
    simp only
    rcases hm : moreF w part (r.length + 1) r with e | ⟨ks, r2⟩
    · refine ⟨fun ks r h => by simp at h, fun e2 h => ?_⟩
      simp only [Except.error.injEq] at h
      subst h
      exact i2 _ hm
    · refine ⟨fun ks' r' h => ?_, fun e h => by simp at h⟩
      simp only [Except.ok.injEq, Prod.mk.injEq] at h
      obtain ⟨rfl, rfl⟩ := h
      exact i1 _ _ hm
theorem test_pos (h0 : 0 ≤ fin) (hB : fin ≤ (B : Int)) (s : Bytes) : PosOk B (testF fin s) := fun ts ht => by
  match ts with
  | [] => exact ⟨fun f r h => by simp [testF] at h, fun e h => by simp only [testF, Except.error.injEq] at h; subst h; exact ⟨h0, hB⟩⟩
  | c :: r =>
    have hc := ht.head
    simp only [testF]
    split
    · exact ⟨fun f r h => by simp at h, fun e h => by simp only [Except.error.injEq] at h; subst h; simp only; omega⟩
    · match r, ht with
      | [], ht => exact ⟨fun f r h => by simp at h, fun e h => by simp only [Except.error.injEq] at h; subst h; exact ⟨h0, hB⟩⟩
      | m :: r2, ht =>
        have hm := ht.tail.head
        simp only
        split
        · exact ⟨fun f r h => by simp at h, fun e h => by simp only [Except.error.injEq] at h; subst h; simp only; omega⟩
        split
        · exact ⟨fun f r h => by simp at h, fun e h => by simp only [Except.error.injEq] at h; subst h; simp only; omega⟩
        · refine ⟨fun f r h => ?_, fun e h => by simp at h⟩
          simp only [Except.ok.injEq, Prod.mk.injEq] at h
          obtain ⟨rfl, rfl⟩ := h
          exact ht.tail.tail
theorem one_pos (h0 : 0 ≤ fin) (hB : fin ≤ (B : Int)) : ∀ n : Nat, PosOk B (oneF fin n)
  | 0 => fun ts ht => ⟨fun f r h => by simp [oneF] at h, fun e h => by simp only [oneF, Except.error.injEq] at h; subst h; exact ⟨h0, hB⟩⟩
  | n + 1 => fun ts ht => by
    match ts with
    | [] => exact ⟨fun f r h => by simp [oneF] at h, fun e h => by simp only [oneF, Except.error.injEq] at h; subst h; exact ⟨h0, hB⟩⟩
    | t :: ts =>
      have hth := ht.head
      simp only [oneF]
      split
      · obtain ⟨p1, p2⟩ := one_pos h0 hB n ts ht.tail
        rcases hq : oneF fin n ts with e | ⟨f, r⟩
        · refine ⟨fun ks r h => by simp at h, fun e2 h => ?_⟩
          simp only [Except.error.injEq] at h
          subst h
          exact p2 _ hq
        · refine ⟨fun ks' r' h => ?_, fun e h => by simp at h⟩
          simp only [Except.ok.injEq, Prod.mk.injEq] at h
          obtain ⟨rfl, rfl⟩ := h
          exact p1 _ _ hq
      split
      · refine ⟨fun ks' r' h => ?_, fun e h => by simp at h⟩
        simp only [Except.ok.injEq, Prod.mk.injEq] at h
        obtain ⟨rfl, rfl⟩ := h
        exact ht.tail
      split
      · refine ⟨fun ks' r' h => ?_, fun e h => by simp at h⟩
        simp only [Except.ok.injEq, Prod.mk.injEq] at h
        obtain ⟨rfl, rfl⟩ := h
        exact ht.tail
      split
      · obtain ⟨p1, p2⟩ := parts_pos (op := 6) (w := wOr) (parts_pos (op := 5) (w := wAnd) (one_pos h0 hB n)) ts ht.tail
        rcases hq : partsF 6 wOr (partsF 5 wAnd (oneF fin n)) ts with e | ⟨f, _ | ⟨u, r⟩⟩
        · refine ⟨fun ks r h => by simp at h, fun e2 h => ?_⟩
          simp only [Except.error.injEq] at h
          subst h
          exact p2 _ hq
        · refine ⟨fun ks r h => by simp at h, fun e2 h => ?_⟩
          simp only [Except.error.injEq] at h
          subst h
          exact ⟨h0, hB⟩
        · have hu := (p1 _ _ hq).head
          simp only
          split
          · refine ⟨fun ks' r' h => ?_, fun e h => by simp at h⟩
            simp only [Except.ok.injEq, Prod.mk.injEq] at h
            obtain ⟨rfl, rfl⟩ := h
            exact (p1 _ _ hq).tail
          · refine ⟨fun ks r h => by simp at h, fun e2 h => ?_⟩
            simp only [Except.error.injEq] at h
            subst h
            simp only
            omega
      split
      · refine ⟨fun ks r h => by simp at h, fun e2 h => ?_⟩
        simp only [Except.error.injEq] at h
        subst h
        simp only
        omega
      · exact test_pos h0 hB _ ts ht.tail
end
theorem nextL_pos {l : Bytes} {i : Nat} {t : Tok} {k : Nat} (h : nextL l i = .ok (t, k)) : t.pos = i := by
  unfold nextL at h
  split at h
  · split at h
    · cases h
    · injection h with h; injection h with h _; subst h; rfl
  split at h
  · split at h
    · cases h
    · injection h with h; injection h with h _; subst h; rfl
  split at h
  · split at h
    · cases h
    · split at h
      · cases h
      split at h
      · cases h
      · injection h with h; injection h with h _; subst h; rfl
  split at h
  · injection h with h; injection h with h _; subst h; rfl
  split at h
  · injection h with h; injection h with h _; subst h; rfl
  · cases h
theorem lexF_pos : ∀ (f : Nat) (l : Bytes) (i : Nat) (acc : List Tok), InT l.length acc → (∀ ts, lexF l f i acc = .ok ts → InT l.length ts) ∧ (∀ e j, lexF l f i acc = .error (e, j) → j ≤ l.length)
  | 0, l, i, acc, ha => ⟨fun ts h => by simp only [lexF, Except.ok.injEq] at h; exact h ▸ ha, fun e j h => by simp [lexF] at h⟩
  | f + 1, l, i, acc, ha => by
    simp only [lexF]
    by_cases hi : i < l.length
    · rw [if_pos hi]
      rcases hn : nextL l i with e | ⟨t, k⟩
      · exact ⟨fun ts h => by simp at h, fun e2 j h => by simp only [Except.error.injEq, Prod.mk.injEq] at h; omega⟩
      · simp only
        split
        · exact ⟨fun ts h => by simp at h, fun e2 j h => by simp only [Except.error.injEq, Prod.mk.injEq] at h; omega⟩
        · refine lexF_pos f l _ _ fun u hu => ?_
          rcases List.mem_append.1 hu with hu | hu
          · exact ha u hu
          · obtain rfl : u = t := by simpa using hu
            rw [nextL_pos hn]
            omega
    · rw [if_neg hi]
      exact ⟨fun ts h => by simp only [Except.ok.injEq] at h; exact h ▸ ha, fun e2 j h => by simp at h⟩
theorem lexAll_pos (l : Bytes) : InT l.length (lexAll l).1 ∧ -1 ≤ (lexAll l).2.2 ∧ (lexAll l).2.2 ≤ (l.length : Int) := by
  obtain ⟨h1, h2⟩ := lexF_pos (l.length + 1) l (gapE l 0) [] (fun t ht => by simp at ht)
  unfold lexAll
  split
  · exact ⟨fun t ht => by simp at ht, by simp only; omega, by simp only; omega⟩
  · rcases hz : lexF l (l.length + 1) (gapE l 0) [] with ⟨e, j⟩ | ts
    · have := h2 e j hz
      exact ⟨fun t ht => by simp at ht, by simp only; omega, by simp only; omega⟩
    · exact ⟨h1 ts hz, by simp only; omega, by simp only; omega⟩
/-- The offset of an error lies in the text, or is -1. -/
theorem parse_pos (l : Bytes) : -1 ≤ (parseF l).2.2 ∧ (parseF l).2.2 ≤ (l.length : Int) := by
  obtain ⟨h1, h2⟩ := lexAll_pos l
  unfold parseF
  split
  · exact h2
  · have hp := parts_pos (op := 6) (w := wOr) (parts_pos (op := 5) (w := wAnd) (one_pos (B := l.length) (fin := (l.length : Int)) (by omega) (by omega) ((lexAll l).1.length + 1))) (lexAll l).1 h1
    obtain ⟨p1, p2⟩ := hp
    rcases hz : eitherF l.length ((lexAll l).1.length + 1) (lexAll l).1 with e | ⟨f, _ | ⟨t, r⟩⟩
    · have := p2 e hz
      simp only
      omega
    · simp only
      split
      · simp only; omega
      · simp only; omega
    · have := (p1 _ _ hz).head
      simp only
      omega
end Go.Cz.Fo
