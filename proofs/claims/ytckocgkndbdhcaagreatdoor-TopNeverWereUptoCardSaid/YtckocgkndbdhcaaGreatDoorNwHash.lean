/-
  The digest, in plain Lean: no two texts that differ in one byte have the same.
-/
import Derived.Test.YtckocgkndbdhcaaGreatDoorNwIdent
namespace Go.Cz.Jn
set_option linter.unusedSimpArgs false
set_option linter.unusedVariables false
abbrev Bytes := List UInt8
abbrev M64 : Nat := 18446744073709551616
def xs (k x : Nat) : Nat := x ^^^ x / k
def mixN (x : Nat) : Nat := xs 536870912 (xs 4294967296 (x * 2862933555777941757 % M64) * 3935559000370003845 % M64)
/-- The next k bytes, with zeros behind the text, as one number. -/
def blkN : Nat → Bytes → Nat → Nat
  | 0, _, a => a
  | k + 1, [], a => blkN k [] (a * 256)
  | k + 1, c :: r, a => blkN k r (a * 256 + c.toNat)
def sumGo : Nat → Nat → Bytes → Nat
  | 0, s, _ => s
  | k + 1, s, l => sumGo k (mixN (s ^^^ blkN 8 l 0)) (l.drop 8)
def sumN (l : Bytes) : Nat := sumGo (l.length / 8 + 1) (2611923443488327891 ^^^ l.length) l
def hexD (n : Nat) : UInt8 := if n < 10 then UInt8.ofNat (48 + n) else UInt8.ofNat (87 + n)
def hexB : Nat → Nat → Bytes
  | 0, _ => []
  | k + 1, n => hexB k (n / 16) ++ [hexD (n % 16)]
def sumB (l : Bytes) : Bytes := hexB 16 (sumN l)
theorem hexB_len : ∀ (k n : Nat), (hexB k n).length = k
  | 0, _ => rfl
  | k + 1, n => by simp [hexB, hexB_len k]
theorem sumB_len (l : Bytes) : (sumB l).length = 16 := hexB_len _ _
theorem hexD_pos {n : Nat} (h : n < 16) : hexD n ≠ 0 := by
  have : ∀ n : Fin 16, hexD n.1 ≠ 0 := by decide
  exact this ⟨n, h⟩
theorem hexD_inj {a b : Nat} (ha : a < 16) (hb : b < 16) (h : hexD a = hexD b) : a = b := by
  have : ∀ a b : Fin 16, hexD a.1 = hexD b.1 → a = b := by decide
  have := this ⟨a, ha⟩ ⟨b, hb⟩ h
  simpa using this
theorem hexB_pos : ∀ (k n : Nat), ∀ c ∈ hexB k n, c ≠ 0
  | 0, _, c, h => by simp [hexB] at h
  | k + 1, n, c, h => by
    rcases List.mem_append.1 h with h | h
    · exact hexB_pos k _ c h
    · simp at h; subst h; exact hexD_pos (Nat.mod_lt _ (by decide))
theorem hexB_inj : ∀ (k a b : Nat), a < 16 ^ k → b < 16 ^ k → hexB k a = hexB k b → a = b
  | 0, a, b, ha, hb, _ => by simp at ha hb; omega
  | k + 1, a, b, ha, hb, h => by
    simp only [hexB] at h
    obtain ⟨h1, h2⟩ := List.append_inj h (by rw [hexB_len, hexB_len])
    rw [Nat.pow_succ] at ha hb
    have e1 := hexB_inj k (a / 16) (b / 16) (by omega) (by omega) h1
    have e2 := hexD_inj (Nat.mod_lt a (by decide)) (Nat.mod_lt b (by decide)) (by simpa using h2)
    omega
theorem xs_lt {j x : Nat} (h : x < M64) : xs (2 ^ j) x < M64 := by
  have h2 : x / 2 ^ j ≤ x := Nat.div_le_self _ _
  have : M64 = 2 ^ 64 := by decide
  unfold xs
  rw [this] at h ⊢
  exact Nat.xor_lt_two_pow h (by omega)
theorem xs_inj {j a b : Nat} (hj : 0 < j) (h : xs (2 ^ j) a = xs (2 ^ j) b) : a = b := by
  unfold xs at h
  have hd : a ^^^ b = (a ^^^ b) / 2 ^ j := by
    rw [Nat.xor_div_two_pow]
    refine Nat.eq_of_testBit_eq fun i => ?_
    have := congrArg (·.testBit i) h
    simp only [Nat.testBit_xor] at this ⊢
    revert this
    cases a.testBit i <;> cases b.testBit i <;> cases (a / 2 ^ j).testBit i <;> cases (b / 2 ^ j).testBit i <;> simp
  have h0 : a ^^^ b = 0 := by
    rcases Nat.eq_zero_or_pos (a ^^^ b) with h | h
    · exact h
    · have h1 : (a ^^^ b) / 2 ^ j < a ^^^ b := Nat.div_lt_self h (Nat.one_lt_two_pow (by omega))
      omega
  refine Nat.eq_of_testBit_eq fun i => ?_
  have := congrArg (·.testBit i) h0
  simp only [Nat.testBit_xor, Nat.zero_testBit] at this
  revert this
  cases a.testBit i <;> cases b.testBit i <;> simp
theorem mul_inj {c d a b : Nat} (hc : c * d % M64 = 1) (ha : a < M64) (hb : b < M64) (h : a * c % M64 = b * c % M64) : a = b := by
  have e : ∀ x, x < M64 → x * c % M64 * d % M64 = x := fun x hx => by
    rw [Nat.mod_mul_mod, Nat.mul_assoc, Nat.mul_mod, hc, Nat.mul_one, Nat.mod_mod, Nat.mod_eq_of_lt hx]
  rw [← e a ha, ← e b hb, h]
theorem mixN_lt (x : Nat) : mixN x < M64 := by
  unfold mixN
  exact xs_lt (j := 29) (Nat.mod_lt _ (by decide))
theorem mixN_inj {a b : Nat} (ha : a < M64) (hb : b < M64) (h : mixN a = mixN b) : a = b := by
  unfold mixN at h
  have h1 := xs_inj (j := 29) (by decide) h
  have h2 := mul_inj (d := 13700500150304694605) (by decide) (xs_lt (j := 32) (Nat.mod_lt _ (by decide))) (xs_lt (j := 32) (Nat.mod_lt _ (by decide))) h1
  have h3 := xs_inj (j := 32) (by decide) h2
  exact mul_inj (d := 16133697096952638549) (by decide) ha hb h3
theorem xor_lt {a b : Nat} (ha : a < M64) (hb : b < M64) : a ^^^ b < M64 := by
  have : M64 = 2 ^ 64 := by decide
  rw [this] at ha hb ⊢
  exact Nat.xor_lt_two_pow ha hb
theorem xor_inj {a b c : Nat} (h : a ^^^ c = b ^^^ c) : a = b := by
  refine Nat.eq_of_testBit_eq fun i => ?_
  have := congrArg (·.testBit i) h
  simp only [Nat.testBit_xor] at this
  revert this
  cases a.testBit i <;> cases b.testBit i <;> cases c.testBit i <;> simp
theorem xor_inj' {a b c : Nat} (h : c ^^^ a = c ^^^ b) : a = b := xor_inj (c := c) (by rw [Nat.xor_comm a, Nat.xor_comm b]; exact h)
theorem blkN_lt : ∀ (k : Nat) (l : Bytes) (a j : Nat), a < 256 ^ j → blkN k l a < 256 ^ (j + k)
  | 0, _, a, j, h => by simpa [blkN] using h
  | k + 1, [], a, j, h => by
    have := blkN_lt k [] (a * 256) (j + 1) (by rw [Nat.pow_succ]; omega)
    rw [show j + (k + 1) = j + 1 + k by omega]
    exact this
  | k + 1, c :: r, a, j, h => by
    have hc := c.toNat_lt
    have := blkN_lt k r (a * 256 + c.toNat) (j + 1) (by rw [Nat.pow_succ]; omega)
    rw [show j + (k + 1) = j + 1 + k by omega]
    exact this
theorem blk8_lt (l : Bytes) : blkN 8 l 0 < M64 := blkN_lt 8 l 0 0 (by decide)
/-- The bytes can be told from the number. -/
theorem blkN_hd : ∀ (k : Nat) (l : Bytes) (a : Nat), blkN k l a / 256 ^ k = a
  | 0, _, a => by simp [blkN]
  | k + 1, [], a => by
    have := blkN_hd k [] (a * 256)
    rw [Nat.pow_succ, ← Nat.div_div_eq_div_mul]
    simp only [blkN]
    rw [this]; omega
  | k + 1, c :: r, a => by
    have := blkN_hd k r (a * 256 + c.toNat)
    have hc := c.toNat_lt
    rw [Nat.pow_succ, ← Nat.div_div_eq_div_mul]
    simp only [blkN]
    rw [this]; omega
theorem blkN_set : ∀ (k i : Nat) (l : Bytes) (a a' : Nat) (c : UInt8), i < k → i < l.length → l[i]? ≠ some c → blkN k l a = blkN k (l.set i c) a' → False
  | 0, i, l, a, a', c, hi, _, _, _ => by omega
  | k + 1, i, [], a, a', c, _, hl, _, _ => by simp at hl
  | k + 1, 0, d :: r, a, a', c, _, _, hc, h => by
    simp only [blkN, List.set_cons_zero] at h
    have h1 := congrArg (· / 256 ^ k) h
    simp only [blkN_hd] at h1
    have hd := d.toNat_lt
    have hc2 := c.toNat_lt
    have : d.toNat = c.toNat := by omega
    exact hc (by simp [UInt8.toNat_inj.1 this])
  | k + 1, i + 1, d :: r, a, a', c, hi, hl, hc, h => by
    simp only [blkN, List.set_cons_succ] at h
    exact blkN_set k i r _ _ c (by omega) (by simpa using hl) (by simpa using hc) h
theorem sumGo_lt : ∀ (k s : Nat) (l : Bytes), s < M64 → sumGo k s l < M64
  | 0, s, _, h => h
  | k + 1, s, l, h => sumGo_lt k _ _ (mixN_lt _)
theorem sumGo_ne : ∀ (k s s' : Nat) (l : Bytes), s < M64 → s' < M64 → s ≠ s' → sumGo k s l ≠ sumGo k s' l
  | 0, s, s', _, _, _, h => h
  | k + 1, s, s', l, h1, h2, h => by
    refine sumGo_ne k _ _ _ (mixN_lt _) (mixN_lt _) fun e => h ?_
    have := mixN_inj (xor_lt h1 (blk8_lt l)) (xor_lt h2 (blk8_lt l)) e
    exact xor_inj this
theorem blkN_same : ∀ (k i : Nat) (l : Bytes) (a : Nat) (c : UInt8), k ≤ i → blkN k (l.set i c) a = blkN k l a
  | 0, _, _, _, _, _ => rfl
  | k + 1, i, [], a, c, _ => by simp [blkN]
  | k + 1, i + 1, d :: r, a, c, h => by
    simp only [blkN, List.set_cons_succ]
    exact blkN_same k i r _ c (by omega)
theorem sumGo_set : ∀ (k i s : Nat) (l : Bytes) (c : UInt8), s < M64 → i < l.length → i < 8 * k → l[i]? ≠ some c → sumGo k s (l.set i c) ≠ sumGo k s l
  | 0, i, s, l, c, _, _, hk, _ => by omega
  | k + 1, i, s, l, c, h1, hl, hk, hc => by
    simp only [sumGo]
    by_cases hi : i < 8
    · have hd : (l.set i c).drop 8 = l.drop 8 := by rw [List.drop_set, if_pos hi]
      rw [hd]
      refine sumGo_ne k _ _ _ (mixN_lt _) (mixN_lt _) fun e => ?_
      have e1 := mixN_inj (xor_lt h1 (blk8_lt _)) (xor_lt h1 (blk8_lt _)) e
      exact blkN_set 8 i l 0 0 c hi hl hc (xor_inj' e1).symm
    · have hd : (l.set i c).drop 8 = (l.drop 8).set (i - 8) c := by rw [List.drop_set, if_neg hi]
      rw [hd, blkN_same 8 i l 0 c (by omega)]
      refine sumGo_set k (i - 8) _ _ c (mixN_lt _) (by rw [List.length_drop]; omega) (by omega) ?_
      rw [List.getElem?_drop, show 8 + (i - 8) = i by omega]
      exact hc
/-- A text with one byte changed has another digest. -/
theorem sumB_set {l : Bytes} {i : Nat} {c : UInt8} (hl : i < l.length) (hn : l.length < M64) (hc : l[i]? ≠ some c) : sumB (l.set i c) ≠ sumB l := by
  intro h
  have h0 : 2611923443488327891 ^^^ l.length < M64 := xor_lt (by decide) hn
  have e := hexB_inj 16 _ _ (sumGo_lt _ _ _ (by rw [List.length_set]; exact h0)) (sumGo_lt _ _ _ h0) h
  unfold sumN at e
  rw [List.length_set] at e
  exact sumGo_set _ i _ l c h0 hl (by omega) hc e
end Go.Cz.Jn
