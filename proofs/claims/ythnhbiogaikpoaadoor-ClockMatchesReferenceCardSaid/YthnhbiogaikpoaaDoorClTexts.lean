/-
  The plain law of the texts of instants.
-/
import Derived.Test.YthnhbiogaikpoaaDoorClParse
namespace Go.Proofs.YthnhbiogaikpoaaDoor
open Go.RowKit Go.Cz Go.Cz.Ck
set_option linter.unusedSimpArgs false
set_option linter.unusedVariables false
theorem index_here (c : UInt8) : ∀ (a b : List UInt8), c ∉ a → Lib.indexByte (a ++ c :: b) c = a.length
  | [], b, _ => by simp [Lib.indexByte]
  | x :: a, b, h => by
    have h1 : ¬ x = c := fun e => h (by simp [e])
    have h2 := index_here c a b (fun hm => h (List.mem_cons_of_mem _ hm))
    simp only [List.cons_append, Lib.indexByte]
    rw [h2]
    simp [h1]
    try omega
theorem cut_here (c : UInt8) (a b : List UInt8) (h : c ∉ a) : cutL (a ++ c :: b) c = (a, b) := by
  unfold cutL
  rw [index_here c a b h, if_pos (by omega)]
  simp
theorem dec_mem : ∀ (u : Nat) (c : UInt8), c ∈ Lib.decDigits u → 48 ≤ c.toNat ∧ c.toNat ≤ 57 := fun u => by
  induction u using Nat.strongRecOn with
  | ind u ih =>
    intro c hc
    rw [Lib.decDigits] at hc
    split at hc
    · simp at hc
      subst hc
      simp
      omega
    · rcases List.mem_append.1 hc with hc | hc
      · exact ih (u / 10) (by omega) c hc
      · simp at hc
        subst hc
        simp
        omega
theorem two_mem (u : Nat) (c : UInt8) (hc : c ∈ twoL u) : 48 ≤ c.toNat ∧ c.toNat ≤ 57 := by
  rcases List.mem_append.1 hc with hc | hc
  · exact dec_mem _ c hc
  · exact dec_mem _ c hc
theorem parse_snoc (c : UInt8) (hc : 48 ≤ c.toNat ∧ c.toNat ≤ 57) : ∀ (l : List UInt8) (acc v : Nat), Lib.parseUint10 acc l = .ok v → v ≤ 1000000 → Lib.parseUint10 acc (l ++ [c]) = .ok (v * 10 + (c.toNat - 48))
  | [], acc, v, h, hv => by
    simp only [Lib.parseUint10] at h
    injection h with h
    subst h
    simp only [List.nil_append, Lib.parseUint10]
    rw [if_pos hc, if_neg (by omega), if_neg (by omega)]
  | d :: r, acc, v, h, hv => by
    simp only [List.cons_append, Lib.parseUint10] at h ⊢
    split at h
    · rename_i hd
      rw [if_pos hd]
      split at h
      · cases h
      · rename_i g1
        rw [if_neg g1]
        split at h
        · cases h
        · rename_i g2
          rw [if_neg g2]
          exact parse_snoc c hc r _ v h hv
    · cases h
theorem parse_dec : ∀ u : Nat, u ≤ 1000000 → Lib.parseUint10 0 (Lib.decDigits u) = .ok u := fun u => by
  induction u using Nat.strongRecOn with
  | ind u ih =>
    intro hu
    rw [Lib.decDigits]
    split
    · have hc : (UInt8.ofNat (48 + u)).toNat = 48 + u := by simp; omega
      simp only [Lib.parseUint10, hc]
      rw [if_pos (by omega), if_neg (by omega), if_neg (by omega)]
      simp
    · have hc : (UInt8.ofNat (48 + u % 10)).toNat = 48 + u % 10 := by simp; omega
      rw [parse_snoc _ (by rw [hc]; omega) _ _ _ (ih (u / 10) (by omega) (by omega)) (by omega), hc]
      congr 1
      omega
theorem part_dec (u : Nat) (hu : u ≤ 100000) : partF (Lib.decDigits u) = some u := by
  have hp := parse_dec u (by omega)
  have hm := dec_mem u
  have ha : Lib.atoiAll (Lib.decDigits u) = .ok (u : Int) := by
    rcases hD : Lib.decDigits u with _ | ⟨c, r⟩
    · have := Lib.decDigits_length u
      rw [hD] at this
      have h1 : 0 < Lib.nDigits u := by rw [Lib.nDigits]; split <;> omega
      simp at this
      omega
    · rw [hD] at hp hm
      have hc := hm c (by simp)
      have e1 : ¬ (c.toNat = 43 ∨ c.toNat = 45) := by omega
      have e2 : ¬ c.toNat = 45 := by omega
      have e3 : Lib.parseMag (c :: r) = .ok u := by unfold Lib.parseMag; rw [if_neg (by simp)]; exact hp
      unfold Lib.atoiAll
      have e0 : ¬ c.toNat = 43 := by omega
      have e4 : ¬ 9223372036854775808 ≤ u := by omega
      simp [e0, e2, e3, e4]
  unfold partF
  rw [ha]
  simp
  omega
theorem part_two (m : Nat) (hm : m < 60) : partF (twoL m) = some m := by
  unfold twoL
  rw [Lib.decDigits_one (by omega), Lib.decDigits_one (by omega)]
  have h : ∀ m : Fin 60, partF ([UInt8.ofNat (48 + m.1 / 10)] ++ [UInt8.ofNat (48 + m.1 % 10)]) = some m.1 := by decide +kernel
  exact h ⟨m, hm⟩
/-- Parse reads what Text wrote. -/
theorem parse_text {n : Nat} (hn : n ≤ 144001439) : parseF (textL n) = ((n : Int), 0) := by
  have n1 : (47 : UInt8) ∉ Lib.decDigits (n / 1440) := fun h => by have := dec_mem _ _ h; simp at this
  have n2 : (58 : UInt8) ∉ twoL (n % 1440 / 60) := fun h => by have := two_mem _ _ h; simp at this
  have h0 : textL n = Lib.decDigits (n / 1440) ++ 47 :: (twoL (n % 1440 / 60) ++ 58 :: twoL (n % 60)) := by simp [textL]
  have c0 : cutL (textL n) 47 = (Lib.decDigits (n / 1440), twoL (n % 1440 / 60) ++ 58 :: twoL (n % 60)) := by rw [h0]; exact cut_here _ _ _ n1
  have c1 : cutL (twoL (n % 1440 / 60) ++ 58 :: twoL (n % 60)) 58 = (twoL (n % 1440 / 60), twoL (n % 60)) := cut_here _ _ _ n2
  have q0 : partF (p0 (textL n)) = some (n / 1440) := by unfold p0; rw [c0]; exact part_dec _ (by omega)
  have q1 : partF (p1 (textL n)) = some (n % 1440 / 60) := by unfold p1; rw [c0]; show partF (cutL _ 58).1 = _; rw [c1]; exact part_two _ (by omega)
  have q2 : partF (p2 (textL n)) = some (n % 60) := by unfold p2; rw [c0]; show partF (cutL _ 58).2 = _; rw [c1]; exact part_two _ (by omega)
  have e : ((n / 1440 : Nat) : Int) * 1440 + ((n % 1440 / 60 : Nat) : Int) * 60 + ((n % 60 : Nat) : Int) = (n : Int) := by omega
  rw [parseF_yes q0 q1 q2, e, if_pos]
  unfold textF
  rw [if_pos (instB_true.2 ⟨by omega, by omega⟩)]
  simp
theorem texts_law (t : Int) : (instB t = true ∧ (textF t).2 = 0 ∧ parseF (textF t).1 = (t, 0)) ∨ (instB t = false ∧ textF t = ([], 1)) := by
  cases h : instB t with
  | true =>
    obtain ⟨h1, h2⟩ := instB_true.1 h
    refine .inl ⟨rfl, ?_, ?_⟩
    · unfold textF; rw [h]; rfl
    · obtain ⟨n, rfl⟩ : ∃ n : Nat, t = n := ⟨t.toNat, by omega⟩
      have : (textF (n : Int)).1 = textL n := by unfold textF; rw [h]; simp
      rw [this]
      exact parse_text (by omega)
  | false => exact .inr ⟨rfl, by unfold textF; rw [h]; rfl⟩
theorem parse_law (l : List UInt8) : (parseF l = (0, 5)) ∨ (∃ u, parseF l = (u, 0) ∧ textF u = (l, 0)) := by
  rcases h0 : partF (p0 l) with _ | a
  · exact .inl (parseF_no (.inl h0))
  rcases h1 : partF (p1 l) with _ | b
  · exact .inl (parseF_no (.inr (.inl h1)))
  rcases h2 : partF (p2 l) with _ | c
  · exact .inl (parseF_no (.inr (.inr h2)))
  rw [parseF_yes h0 h1 h2]
  split
  · rename_i h
    exact .inr ⟨_, rfl, h⟩
  · exact .inl rfl
end Go.Proofs.YthnhbiogaikpoaaDoor
