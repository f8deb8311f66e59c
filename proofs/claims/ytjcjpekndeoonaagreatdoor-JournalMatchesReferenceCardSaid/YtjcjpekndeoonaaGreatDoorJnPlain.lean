/-
  Decimal digits, sealed sectors, pieces and records: plain laws.
-/
import Derived.Test.YtjcjpekndeoonaaGreatDoorJnModel
import Derived.Lib.ItoaNum
namespace Go.Cz.Jn
set_option linter.unusedSimpArgs false
set_option linter.unusedVariables false
theorem decGo_eq : ∀ (f n : Nat), n < f → decGo f n = Lib.decDigits n
  | 0, n, h => by omega
  | f + 1, n, h => by
    unfold decGo
    rw [Lib.decDigits]
    by_cases h10 : n < 10
    · rw [if_pos h10, dif_pos h10]
    · rw [if_neg h10, dif_neg h10, decGo_eq f (n / 10) (by omega)]
theorem decB_eq (n : Nat) : decB n = Lib.decDigits n := decGo_eq _ _ (by omega)
def valB (l : Bytes) : Nat := l.foldl (fun a c => 10 * a + (c.toNat - 48)) 0
theorem dig_val {k : Nat} (h : k < 10) : (UInt8.ofNat (48 + k)).toNat - 48 = k ∧ 48 ≤ (UInt8.ofNat (48 + k)).toNat ∧ (UInt8.ofNat (48 + k)).toNat ≤ 57 := by
  have : ∀ k : Fin 10, (UInt8.ofNat (48 + k.1)).toNat - 48 = k.1 ∧ 48 ≤ (UInt8.ofNat (48 + k.1)).toNat ∧ (UInt8.ofNat (48 + k.1)).toNat ≤ 57 := by decide
  exact this ⟨k, h⟩
theorem valB_snoc (l : Bytes) (c : UInt8) : valB (l ++ [c]) = 10 * valB l + (c.toNat - 48) := by simp [valB]
theorem valB_dec : ∀ n : Nat, valB (Lib.decDigits n) = n := by
  intro n
  induction n using Nat.strongRecOn with
  | _ n ih =>
    rw [Lib.decDigits]
    by_cases h : n < 10
    · rw [dif_pos h]
      have := (dig_val h).1
      simp [valB] at this ⊢
      omega
    · rw [dif_neg h, valB_snoc, ih (n / 10) (by omega), (dig_val (Nat.mod_lt n (by decide))).1]
      omega
theorem decB_inj {a b : Nat} (h : decB a = decB b) : a = b := by
  rw [decB_eq, decB_eq] at h
  rw [← valB_dec a, h, valB_dec]
theorem dec_digit : ∀ (n : Nat), ∀ c ∈ Lib.decDigits n, 48 ≤ c.toNat ∧ c.toNat ≤ 57 := by
  intro n
  induction n using Nat.strongRecOn with
  | _ n ih =>
    intro c hc
    rw [Lib.decDigits] at hc
    by_cases h : n < 10
    · rw [dif_pos h] at hc
      have : c = UInt8.ofNat (48 + n) := by simpa using hc
      rw [this]
      exact (dig_val h).2
    · rw [dif_neg h] at hc
      rcases List.mem_append.1 hc with hc | hc
      · exact ih (n / 10) (by omega) c hc
      · have : c = UInt8.ofNat (48 + n % 10) := by simpa using hc
        rw [this]
        exact (dig_val (Nat.mod_lt n (by decide))).2
theorem decB_digit {n : Nat} {c : UInt8} (h : c ∈ decB n) : 48 ≤ c.toNat ∧ c.toNat ≤ 57 := dec_digit n c (by rw [← decB_eq]; exact h)
theorem decB_len_pos (n : Nat) : 1 ≤ (decB n).length := by rw [decB_eq, Lib.decDigits_length]; exact Lib.nDigits_pos n
theorem dec_le : ∀ (k n : Nat), n < 10 ^ (k + 1) → (Lib.decDigits n).length ≤ k + 1
  | 0, n, h => by rw [Lib.decDigits, dif_pos (by simpa using h)]; simp
  | k + 1, n, h => by
    rw [Lib.decDigits]
    by_cases h10 : n < 10
    · rw [dif_pos h10]; simp
    · rw [dif_neg h10, List.length_append]
      have := dec_le k (n / 10) (by rw [Nat.pow_succ] at h; omega)
      simp; omega
theorem decB_len {k n : Nat} (h : n < 10 ^ (k + 1)) : (decB n).length ≤ k + 1 := by rw [decB_eq]; exact dec_le k n h
theorem digitsB_len {n k : Nat} (h : n < 10 ^ (k + 1)) : (digitsB n (k + 1)).length = k + 1 := by
  have := decB_len h
  unfold digitsB
  simp; omega
theorem valB_rep (k : Nat) (l : Bytes) : valB (List.replicate k 48 ++ l) = valB l := by
  induction k with
  | zero => rfl
  | succ k ih => rw [← ih]; simp [valB, List.replicate_succ]
theorem digitsB_inj {a b w : Nat} (h : digitsB a w = digitsB b w) : a = b := by
  have e : ∀ n, valB (digitsB n w) = n := fun n => by unfold digitsB; rw [valB_rep, decB_eq, valB_dec]
  rw [← e a, h, e]
theorem pad48_len (l : Bytes) : (pad48 l).length = 48 := by unfold pad48; simp
theorem pad48_le {l : Bytes} (h : l.length ≤ 48) : pad48 l = l ++ List.replicate (48 - l.length) 0 := by
  unfold pad48
  rw [List.take_append, List.take_of_length_le h, List.take_replicate]
  congr 2
  omega
theorem sealB_len (place : Nat) (c : Bytes) : (sealB place c).length = 64 := by unfold sealB; rw [List.length_append, sumB_len, pad48_len]
theorem sealB_drop (place : Nat) (c : Bytes) : (sealB place c).drop 16 = pad48 c := by
  unfold sealB
  rw [List.drop_append_of_le_length (by rw [sumB_len]; exact Nat.le_refl _), List.drop_of_length_le (by rw [sumB_len]; exact Nat.le_refl _), List.nil_append]
theorem headB_len (place n : Nat) : (headB place n).length = 64 := sealB_len _ _
theorem headB_num {place n : Nat} (h : n < 10 ^ 8) : ((headB place n).drop 16).take 8 = digitsB n 8 := by
  unfold headB
  rw [sealB_drop, pad48_le (by rw [digitsB_len (k := 7) h]; decide), List.take_append_of_le_length (by rw [digitsB_len (k := 7) h]; omega), List.take_of_length_le (by rw [digitsB_len (k := 7) h]; omega)]
theorem headB_inj {place a b : Nat} (ha : a < 10 ^ 8) (hb : b < 10 ^ 8) (h : headB place a = headB place b) : a = b := by
  have := headB_num (place := place) ha
  rw [h, headB_num hb] at this
  exact (digitsB_inj this).symm
theorem headB_ne_zero (place n : Nat) : headB place n ≠ zeroB := by
  intro h
  have h1 := congrArg (fun l : Bytes => l.take 16) h
  have e : (headB place n).take 16 = sumB (digitsB place 8 ++ pad48 (digitsB n 8)) := by
    unfold headB sealB
    rw [List.take_append_of_le_length (by rw [sumB_len]; exact Nat.le_refl _), List.take_of_length_le (by rw [sumB_len]; exact Nat.le_refl _)]
  simp only [e] at h1
  have h2 : (0 : UInt8) ∈ sumB (digitsB place 8 ++ pad48 (digitsB n 8)) := by
    rw [h1]
    unfold zeroB
    rw [List.take_replicate]
    simp
  exact hexB_pos _ _ _ h2 rfl
theorem find_range {p : Nat → Bool} {N n : Nat} (hn : n < N) (hp : p n = true) (hu : ∀ k, k < N → p k = true → k = n) : (List.range N).find? p = some n := by
  cases h : (List.range N).find? p with
  | none =>
    have := List.find?_eq_none.1 h n (List.mem_range.2 hn)
    exact absurd hp this
  | some k =>
    have h1 := List.find?_some h
    have h2 := List.mem_range.1 (List.mem_of_find?_eq_some h)
    rw [hu k h2 h1]
theorem find_no {p : Nat → Bool} {N : Nat} (h : ∀ k, k < N → p k = false) : (List.range N).find? p = none := by
  rw [List.find?_eq_none]
  intro k hk
  rw [h k (List.mem_range.1 hk)]
  decide
theorem countB_head {place n room : Nat} (h : n ≤ room) (hr : room < 10 ^ 8) : countB place (headB place n) room = n := by
  unfold countB
  rw [if_neg (headB_ne_zero _ _), find_range (n := n) (by omega) (by simp) (fun k hk hp => headB_inj (by omega) (by omega) (by simpa using hp))]
theorem countB_zero (place room : Nat) : countB place zeroB room = 0 := by unfold countB; rw [if_pos rfl]
/-- What the count of a head is, told by the number that stands there. -/
theorem countB_none {place room : Nat} {s : Bytes} (hz : s ≠ zeroB) (h : ∀ n, n ≤ room → headB place n ≠ s) : countB place s room = -1 := by
  unfold countB
  rw [if_neg hz, find_no (fun k hk => by simpa using h k (by omega))]
theorem numB_dec {n : Nat} (h : n ≤ 20000) : numB (decB n) = some n := by
  unfold numB
  exact find_range (by omega) (by simp) fun k _ hp => decB_inj (by simpa using hp)
theorem numB_some {h : Bytes} {n : Nat} (hn : numB h = some n) : n ≤ 20000 ∧ decB n = h := by
  have h1 := List.find?_some hn
  have h2 := List.mem_range.1 (List.mem_of_find?_eq_some hn)
  exact ⟨by omega, by simpa using h1⟩
attribute [local irreducible] numB
theorem findIdx_colon {h r : Bytes} (hd : ∀ c ∈ h, c ≠ 58) : (h ++ 58 :: r).findIdx? (· == 58) = some h.length := by
  induction h with
  | nil => simp [List.findIdx?_cons]
  | cons c h ih =>
    have hc : (c == 58) = false := by have := hd c (by simp); simpa using this
    rw [List.cons_append, List.findIdx?_cons, hc, ih (fun x hx => hd x (by simp [hx]))]
    simp
theorem decB_colon (n : Nat) : ∀ c ∈ decB n, c ≠ 58 := fun c hc h => by
  have := decB_digit hc
  rw [h] at this
  exact absurd this.2 (by decide)
theorem parseGo_succ (f : Nat) (l : Bytes) : parseGo (f + 1) l = if l = [] then some [] else
    match l.findIdx? (· == 58) with
    | none => none
    | some k => match numB (l.take k) with
      | none => none
      | some n => if n ≤ (l.drop (k + 1)).length then (parseGo f ((l.drop (k + 1)).drop n)).map ((l.drop (k + 1)).take n :: ·) else none := rfl
theorem parse_more : ∀ (f g : Nat) (l : Bytes), l.length < f → l.length < g → parseGo f l = parseGo g l := by
  intro f
  induction f with
  | zero => intro g l h _; omega
  | succ f ih =>
    intro g l h1 h2
    rcases g with _ | g
    · omega
    rw [parseGo_succ, parseGo_succ]
    by_cases hl : l = []
    · rw [if_pos hl, if_pos hl]
    · rw [if_neg hl, if_neg hl]
      have hpos : 0 < l.length := List.length_pos_iff.2 hl
      have e : ∀ k n, parseGo f ((l.drop (k + 1)).drop n) = parseGo g ((l.drop (k + 1)).drop n) := fun k n => ih g _ (by rw [List.length_drop, List.length_drop]; omega) (by rw [List.length_drop, List.length_drop]; omega)
      simp only [e]
theorem parse_cons {r t : Bytes} (h : r.length ≤ 20000) : parseB (decB r.length ++ 58 :: (r ++ t)) = (parseB t).map (r :: ·) := by
  have hlen := decB_len_pos r.length
  have hk := findIdx_colon (r := r ++ t) (decB_colon r.length)
  have ht : (decB r.length ++ 58 :: (r ++ t)).take (decB r.length).length = decB r.length := by rw [List.take_append_of_le_length (Nat.le_refl _), List.take_length]
  have hd : (decB r.length ++ 58 :: (r ++ t)).drop ((decB r.length).length + 1) = r ++ t := by
    rw [List.drop_append, List.drop_of_length_le (by omega), List.nil_append, Nat.add_sub_cancel_left]
    rfl
  have hn := numB_dec h
  have hne : decB r.length ++ 58 :: (r ++ t) ≠ [] := by simp
  have hl : t.length < (decB r.length ++ 58 :: (r ++ t)).length := by simp; omega
  unfold parseB
  obtain ⟨L, hL⟩ : ∃ L, L = decB r.length ++ 58 :: (r ++ t) := ⟨_, rfl⟩
  rw [← hL] at hk ht hd hne hl ⊢
  rw [parseGo_succ, if_neg hne, hk]
  dsimp only
  rw [ht, hn]
  dsimp only
  rw [hd, if_pos (by simp), List.drop_append_of_le_length (Nat.le_refl _), List.drop_length, List.nil_append, List.take_append_of_le_length (Nat.le_refl _), List.take_length]
  rw [parse_more L.length (t.length + 1) t hl (by omega)]
theorem parse_text : ∀ (rs : List Bytes), (∀ r ∈ rs, r.length ≤ 20000) → parseB (textB rs) = some rs
  | [], _ => rfl
  | r :: rs, h => by
    have e : textB (r :: rs) = decB r.length ++ 58 :: (r ++ textB rs) := by simp [textB]
    rw [e, parse_cons (h r (by simp)), parse_text rs fun x hx => h x (by simp [hx])]
    rfl
theorem textB_append (a b : List Bytes) : textB (a ++ b) = textB a ++ textB b := by simp [textB]
theorem pieces_flat : ∀ (f : Nat) (l : Bytes), l.length ≤ f → (piecesGo f l).flatten = l
  | 0, l, h => by have : l = [] := List.length_eq_zero_iff.1 (by omega); subst this; rfl
  | f + 1, l, h => by
    unfold piecesGo
    by_cases hl : l = []
    · rw [if_pos hl, hl]; rfl
    · rw [if_neg hl, List.flatten_cons, pieces_flat f _ (by have := List.length_pos_iff.2 hl; rw [List.length_drop]; omega), List.take_append_drop]
theorem piecesB_flat (l : Bytes) : (piecesB l).flatten = l := pieces_flat _ _ (Nat.le_refl _)
theorem pieces_mem : ∀ (f : Nat) (l : Bytes), ∀ p ∈ piecesGo f l, 1 ≤ p.length ∧ p.length ≤ 46
  | 0, l, p, h => by simp [piecesGo] at h
  | f + 1, l, p, h => by
    unfold piecesGo at h
    by_cases hl : l = []
    · rw [if_pos hl] at h; simp at h
    · rw [if_neg hl] at h
      rcases List.mem_cons.1 h with rfl | h
      · have := List.length_pos_iff.2 hl
        rw [List.length_take]; omega
      · exact pieces_mem f _ p h
theorem piecesB_mem {l p : Bytes} (h : p ∈ piecesB l) : 1 ≤ p.length ∧ p.length ≤ 46 := pieces_mem _ _ p h
theorem sectorB_len (place : Nat) (s : Bytes) : (sectorB place s).length = 64 := sealB_len _ _
theorem sectorB_read {place : Nat} {s : Bytes} (h : s.length ≤ 46) : ((sectorB place s).drop 18).take s.length = s ∧ ((sectorB place s).drop 16).take 2 = digitsB s.length 2 := by
  have hd : (digitsB s.length 2).length = 2 := digitsB_len (k := 1) (by omega)
  have hp : (sectorB place s).drop 16 = (digitsB s.length 2 ++ s) ++ List.replicate (48 - (2 + s.length)) 0 := by
    unfold sectorB
    rw [sealB_drop, pad48_le (by rw [List.length_append, hd]; omega), List.length_append, hd]
  refine ⟨?_, ?_⟩
  · have : (sectorB place s).drop 18 = ((sectorB place s).drop 16).drop 2 := by rw [List.drop_drop]
    rw [this, hp, List.append_assoc, List.drop_append, List.drop_of_length_le (by omega), hd, List.nil_append]
    simp
  · rw [hp, List.append_assoc, List.take_append_of_le_length (by omega), List.take_of_length_le (by omega)]
theorem pieceB_sector {place : Nat} {s : Bytes} (h1 : 1 ≤ s.length) (h2 : s.length ≤ 46) : pieceB place (sectorB place s) = some s := by
  unfold pieceB
  have hu : ∀ n, n < 47 → (decide (1 ≤ n) && sectorB place (((sectorB place s).drop 18).take n) == sectorB place s) = true → n = s.length := fun n hn hp => by
    simp only [Bool.and_eq_true, decide_eq_true_eq, beq_iff_eq] at hp
    have hl : (((sectorB place s).drop 18).take n).length = n := by rw [List.length_take, List.length_drop, sectorB_len]; omega
    have e1 := (sectorB_read (place := place) (s := ((sectorB place s).drop 18).take n) (by omega)).2
    rw [hp.2, (sectorB_read h2).2, hl] at e1
    exact (digitsB_inj e1).symm
  rw [find_range (n := s.length) (by omega) (by rw [(sectorB_read h2).1]; simp; omega) hu]
  simp [(sectorB_read (place := place) h2).1]
end Go.Cz.Jn
