/-
  The plain law of the reference's Parse: what a text of an instant looks like, byte for byte.
-/
import Derived.Test.YthnhbiogaikpoaaDoorClTexts
namespace Go.Proofs.YthnhbiogaikpoaaDoor
open Go.RowKit Go.Cz Go.Cz.Ck
set_option linter.unusedSimpArgs false
set_option linter.unusedVariables false
/-- A text that is no instant's text is not parsed. -/
theorem parse_no {l : List UInt8} (h : ∀ n : Nat, n ≤ 144001439 → l ≠ textL n) : parseF l = (0, 5) := by
  rcases parse_law l with h1 | ⟨u, h1, h2⟩
  · exact h1
  · exfalso
    unfold textF at h2
    split at h2
    · rename_i hu
      obtain ⟨h3, h4⟩ := instB_true.1 hu
      injection h2 with h5 _
      exact h u.toNat (by omega) h5.symm
    · injection h2 with _ h6
      cases h6
/-- What digits say, the first ahead. -/
def dayV (l : List UInt8) : Nat := l.foldl (fun a c => 10 * a + (c.toNat - 48)) 0
theorem dayV_snoc (l : List UInt8) (c : UInt8) : dayV (l ++ [c]) = 10 * dayV l + (c.toNat - 48) := by simp [dayV]
theorem dayV_dec (u : Nat) : dayV (Lib.decDigits u) = u := by
  induction u using Nat.strongRecOn with
  | ind u ih =>
    rw [Lib.decDigits]
    split
    · have hc : (UInt8.ofNat (48 + u)).toNat = 48 + u := by simp; omega
      simp [dayV, hc]
      omega
    · have hc : (UInt8.ofNat (48 + u % 10)).toNat = 48 + u % 10 := by simp; omega
      rw [dayV_snoc, ih (u / 10) (by omega), hc]
      omega
theorem dec_len6 {u : Nat} (h : u ≤ 100000) : 1 ≤ (Lib.decDigits u).length ∧ (Lib.decDigits u).length ≤ 6 := by
  rw [Lib.decDigits_length]
  refine ⟨Lib.nDigits_pos u, ?_⟩
  by_cases h1 : u < 10
  · rw [Lib.nDigits_small h1]; omega
  rw [Lib.nDigits_big h1]
  by_cases h2 : u / 10 < 10
  · rw [Lib.nDigits_small h2]; omega
  rw [Lib.nDigits_big h2]
  by_cases h3 : u / 10 / 10 < 10
  · rw [Lib.nDigits_small h3]; omega
  rw [Lib.nDigits_big h3]
  by_cases h4 : u / 10 / 10 / 10 < 10
  · rw [Lib.nDigits_small h4]; omega
  rw [Lib.nDigits_big h4]
  by_cases h5 : u / 10 / 10 / 10 / 10 < 10
  · rw [Lib.nDigits_small h5]; omega
  rw [Lib.nDigits_big h5, Lib.nDigits_small (by omega)]
  omega
/-- Two digits. -/
theorem two_lit {m : Nat} (h : m < 60) : twoL m = [UInt8.ofNat (48 + m / 10), UInt8.ofNat (48 + m % 10)] := by
  unfold twoL
  rw [Lib.decDigits_one (by omega), Lib.decDigits_one (by omega)]
  rfl
/-- A text of an instant: digits, '/', two digits, ':', two digits. -/
theorem text_shape {l : List UInt8} {n : Nat} (hn : n ≤ 144001439) (hl : l = textL n) : ∃ (d : List UInt8) (a b x y : UInt8), l = d ++ [47, a, b, 58, x, y] ∧ 1 ≤ d.length ∧ d.length ≤ 6 ∧
    (∀ c ∈ d, 48 ≤ c.toNat ∧ c.toNat ≤ 57) ∧ (48 ≤ a.toNat ∧ a.toNat ≤ 57) ∧ (48 ≤ b.toNat ∧ b.toNat ≤ 57) ∧ (48 ≤ x.toNat ∧ x.toNat ≤ 57) ∧ (48 ≤ y.toNat ∧ y.toNat ≤ 57) ∧
    dayV d * 1440 + 60 * (10 * (a.toNat - 48) + (b.toNat - 48)) + 10 * (x.toNat - 48) + (y.toNat - 48) = n := by
  have h1 : n % 1440 / 60 < 60 := by omega
  have h2 : n % 60 < 60 := by omega
  obtain ⟨k1, k2⟩ := dec_len6 (u := n / 1440) (by omega)
  have t (k : Nat) (hk : k < 10) : (UInt8.ofNat (48 + k)).toNat = 48 + k := by simp; omega
  refine ⟨Lib.decDigits (n / 1440), UInt8.ofNat (48 + n % 1440 / 60 / 10), UInt8.ofNat (48 + n % 1440 / 60 % 10), UInt8.ofNat (48 + n % 60 / 10), UInt8.ofNat (48 + n % 60 % 10), ?_, k1, k2, dec_mem _, ?_, ?_, ?_, ?_, ?_⟩
  · rw [hl, textL, two_lit h1, two_lit h2]
    simp
  · rw [t _ (by omega)]; omega
  · rw [t _ (by omega)]; omega
  · rw [t _ (by omega)]; omega
  · rw [t _ (by omega)]; omega
  · rw [dayV_dec, t _ (by omega), t _ (by omega), t _ (by omega), t _ (by omega)]
    omega
/-- A digit as a byte. -/
def digB (c : UInt8) : Prop := 48 ≤ c.toNat ∧ c.toNat ≤ 57
theorem rp_len {l : List UInt8} (h : l.length < 7 ∨ 12 < l.length) : parseF l = (0, 5) := parse_no fun n hn hl => by
  obtain ⟨d, a, b, x, y, rfl, k1, k2, -⟩ := text_shape hn hl
  simp at h
  omega
theorem rp_day {l : List UInt8} {i : Nat} (h : i + 6 < l.length) (hd : ¬ digB l[i]) : parseF l = (0, 5) := parse_no fun n hn hl => by
  obtain ⟨d, a, b, x, y, rfl, k1, k2, hc, -⟩ := text_shape hn hl
  simp at h
  rw [List.getElem_append_left h] at hd
  exact hd (hc _ (List.getElem_mem h))
theorem rp_rest {l : List UInt8} {i : Nat} (h6 : 6 ≤ l.length) (h : l.length - 6 + i < l.length) (h1 : i = 1 ∨ i = 2 ∨ i = 4 ∨ i = 5) (hd : ¬ digB l[l.length - 6 + i]) : parseF l = (0, 5) := parse_no fun n hn hl => by
  obtain ⟨d, a, b, x, y, rfl, k1, k2, hc, ha, hb, hx, hy, -⟩ := text_shape hn hl
  have hk : (d ++ [47, a, b, 58, x, y]).length - 6 = d.length := by simp
  have e : ∀ (j : Nat) (hj : (d ++ [47, a, b, 58, x, y]).length - 6 + j < (d ++ [47, a, b, 58, x, y]).length) (hj6 : j < 6), (d ++ [47, a, b, 58, x, y])[(d ++ [47, a, b, 58, x, y]).length - 6 + j] = [47, a, b, 58, x, y][j] := by
    intro j hj hj6
    have : ∀ (m : Nat) (hm : m < (d ++ [47, a, b, 58, x, y]).length), m = d.length + j → (d ++ [47, a, b, 58, x, y])[m] = [47, a, b, 58, x, y][j] := by
      rintro m hm rfl
      rw [List.getElem_append_right (by omega)]
      simp
    exact this _ hj (by rw [hk])
  rcases h1 with rfl | rfl | rfl | rfl
  · rw [e 1 h (by omega)] at hd; exact hd ha
  · rw [e 2 h (by omega)] at hd; exact hd hb
  · rw [e 4 h (by omega)] at hd; exact hd hx
  · rw [e 5 h (by omega)] at hd; exact hd hy
/-- The number that the reference reckons. -/
theorem rp_end {l : List UInt8} {k : Nat} (hk : k + 6 = l.length) (t : Nat) (ht : t = dayV (l.take k) * 1440 + 60 * (10 * ((l.getD (k + 1) 0).toNat - 48) + ((l.getD (k + 2) 0).toNat - 48)) + 10 * ((l.getD (k + 4) 0).toNat - 48) + ((l.getD (k + 5) 0).toNat - 48)) :
    parseF l = if textF (t : Int) = (l, 0) then ((t : Int), 0) else (0, 5) := by
  split
  · rename_i h
    rcases texts_law (t : Int) with ⟨h1, h2, h3⟩ | ⟨h1, h2⟩
    · rw [h] at h3; exact h3
    · rw [h2] at h; cases h
  · rename_i h
    refine parse_no fun n hn hl => h ?_
    obtain ⟨d, a, b, x, y, rfl, k1, k2, hc, ha, hb, hx, hy, hv⟩ := text_shape hn hl
    have hkd : k = d.length := by simp at hk; omega
    subst hkd
    have : t = n := by
      rw [ht, ← hv]
      simp [List.getD_eq_getElem?_getD, List.getElem?_append_right]
    subst this
    unfold textF
    rw [if_pos (instB_true.2 ⟨by omega, by omega⟩), Int.toNat_natCast, ← hl]
theorem dayV_lt : ∀ (i : Nat) (l : List UInt8), l.length = i → (∀ c ∈ l, digB c) → i ≤ 6 → dayV l ≤ 999999 := by
  have h : ∀ (i : Nat) (l : List UInt8), l.length = i → (∀ c ∈ l, digB c) → dayV l + 1 ≤ 10 ^ i := by
    intro i
    induction i with
    | zero => intro l hl _; obtain rfl := List.length_eq_zero_iff.1 hl; simp [dayV]
    | succ i ih =>
      intro l hl hc
      rcases List.eq_nil_or_concat l with rfl | ⟨r, c, rfl⟩
      · simp at hl
      · rw [List.concat_eq_append] at hl hc ⊢
        have h1 := ih r (by simpa using hl) (fun x hx => hc x (by simp [hx]))
        have h2 := hc c (by simp)
        unfold digB at h2
        rw [dayV_snoc, Nat.pow_succ]
        omega
  intro i l hl hc hi
  have h1 := h i l hl hc
  have h2 : (10 : Nat) ^ i ≤ 10 ^ 6 := Nat.pow_le_pow_right (by omega) hi
  omega
end Go.Proofs.YthnhbiogaikpoaaDoor
