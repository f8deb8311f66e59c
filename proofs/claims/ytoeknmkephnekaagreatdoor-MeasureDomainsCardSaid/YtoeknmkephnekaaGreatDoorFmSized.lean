/-
  What the parser makes is not large.
-/
import Derived.Test.YtoeknmkephnekaaGreatDoorFmToks
namespace Go.Cz.Fo
open Go.Cz.Lx
set_option linter.unusedVariables false
/-- A part takes at least half as many tokens as it has nodes. -/
def Sized (part : List Tok → Res) : Prop := ∀ ts f r, part ts = .ok (f, r) → size f + 1 + 2 * r.length ≤ 2 * ts.length
theorem more_sized {w : Bytes} {part : List Tok → Res} (hp : Sized part) : ∀ (n : Nat) (ts : List Tok) (ks : List Fm) (r : List Tok), moreF w part n ts = .ok (ks, r) → sizes ks + 3 * ks.length + 2 * r.length ≤ 2 * ts.length
  | 0, ts, ks, r, h => by
    simp only [moreF, Except.ok.injEq, Prod.mk.injEq] at h
    obtain ⟨rfl, rfl⟩ := h
    simp [sizes]
  | n + 1, [], ks, r, h => by
    simp only [moreF, Except.ok.injEq, Prod.mk.injEq] at h
    obtain ⟨rfl, rfl⟩ := h
    simp [sizes]
  | n + 1, t :: ts, ks, r, h => by
    simp only [moreF] at h
    split at h
    · split at h
      · cases h
      · rename_i k r2 h1
        have h2 := hp _ _ _ h1
        split at h
        · cases h
        · rename_i ks2 r3 h4
          have h5 := more_sized hp n _ _ _ h4
          simp only [Except.ok.injEq, Prod.mk.injEq] at h
          obtain ⟨rfl, rfl⟩ := h
          simp only [sizes, List.length_cons]
          omega
    · simp only [Except.ok.injEq, Prod.mk.injEq] at h
      obtain ⟨rfl, rfl⟩ := h
      simp [sizes]
theorem parts_sized {op : Int} {w : Bytes} {part : List Tok → Res} (hp : Sized part) : Sized (partsF op w part) := fun ts f r h => by
  unfold partsF at h
  split at h
  · cases h
  · rename_i k r2 h1
    have h2 := hp _ _ _ h1
    split at h
    · cases h
    · rename_i ks r3 h4
      have h5 := more_sized hp _ _ _ _ h4
      simp only [Except.ok.injEq, Prod.mk.injEq] at h
      obtain ⟨rfl, rfl⟩ := h
      cases ks with
      | nil => simp [sizes] at h5 ⊢; omega
      | cons k2 ks =>
        simp only [List.isEmpty_cons, Bool.false_eq_true, if_false, size, sizes, List.length_cons] at h5 ⊢
        omega
theorem test_sized {fin : Int} {s : Bytes} {ts : List Tok} {f : Fm} {r : List Tok} (h : testF fin s ts = .ok (f, r)) : size f + 1 + 2 * r.length ≤ 2 * ts.length := by
  unfold testF at h
  split at h
  · cases h
  · split at h
    · cases h
    · split at h
      · cases h
      · split at h
        · cases h
        · split at h
          · cases h
          · simp only [Except.ok.injEq, Prod.mk.injEq] at h
            obtain ⟨rfl, rfl⟩ := h
            simp [size, sizes]
            omega
theorem one_sized {fin : Int} : ∀ n : Nat, Sized (oneF fin n)
  | 0 => fun ts f r h => by simp [oneF] at h
  | n + 1 => fun ts f r h => by
    match ts with
    | [] => simp [oneF] at h
    | t :: ts =>
      simp only [oneF] at h
      split at h
      · split at h
        · cases h
        · rename_i k r2 h1
          have h2 := one_sized n _ _ _ h1
          simp only [Except.ok.injEq, Prod.mk.injEq] at h
          obtain ⟨rfl, rfl⟩ := h
          simp [size, sizes]
          omega
      split at h
      · simp only [Except.ok.injEq, Prod.mk.injEq] at h
        obtain ⟨rfl, rfl⟩ := h
        simp [size, sizes]; omega
      split at h
      · simp only [Except.ok.injEq, Prod.mk.injEq] at h
        obtain ⟨rfl, rfl⟩ := h
        simp [size, sizes]; omega
      split at h
      · split at h
        · cases h
        · cases h
        · rename_i g u r2 h1
          have h2 := parts_sized (parts_sized (one_sized n)) _ _ _ h1
          split at h
          · simp only [Except.ok.injEq, Prod.mk.injEq] at h
            obtain ⟨rfl, rfl⟩ := h
            simp only [List.length_cons] at h2 ⊢
            omega
          · cases h
      split at h
      · cases h
      · have h2 := test_sized h
        simp only [List.length_cons]
        omega
theorem either_sized {fin : Int} (n : Nat) : Sized (eitherF fin n) := parts_sized (parts_sized (one_sized n))
theorem lexF_len : ∀ (f : Nat) (l : Bytes) (i : Nat) (acc ts : List Tok), acc.length ≤ 5000 → lexF l f i acc = .ok ts → ts.length ≤ 5000
  | 0, l, i, acc, ts, h0, h => by
    simp only [lexF, Except.ok.injEq] at h
    exact h ▸ h0
  | f + 1, l, i, acc, ts, h0, h => by
    simp only [lexF] at h
    split at h
    · split at h
      · cases h
      · split at h
        · cases h
        · rename_i h5
          exact lexF_len f l _ _ ts (by simp; omega) h
    · simp only [Except.ok.injEq] at h
      exact h ▸ h0
theorem lexAll_len (l : Bytes) : (lexAll l).1.length ≤ 5000 := by
  unfold lexAll
  split
  · simp
  · split
    · exact Nat.zero_le _
    · rename_i h; exact lexF_len _ _ _ _ _ (by simp) h
end Go.Cz.Fo
