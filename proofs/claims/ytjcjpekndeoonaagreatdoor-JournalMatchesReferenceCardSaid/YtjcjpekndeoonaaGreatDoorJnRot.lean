/-
  One byte of a journal's disk rots: plain laws.
-/
import Derived.Test.YtjcjpekndeoonaaGreatDoorJnOpL
namespace Go.Cz.Jn
set_option linter.unusedSimpArgs false
set_option linter.unusedVariables false
open Go.Cz.Dk (Dm)
def Sealed (p : Nat) (s : Bytes) : Prop := s = sumB (digitsB p 8 ++ s.drop 16) ++ s.drop 16
theorem sealB_sealed (p : Nat) (c : Bytes) : Sealed p (sealB p c) := by
  unfold Sealed
  rw [sealB_drop]
  rfl
theorem sealed_take {p : Nat} {s : Bytes} (h : Sealed p s) : s.take 16 = sumB (digitsB p 8 ++ s.drop 16) := by
  have e : ∀ X Y : Bytes, (sumB X ++ Y).take 16 = sumB X := fun X Y => by
    rw [List.take_append_of_le_length (by rw [sumB_len]; exact Nat.le_refl _), List.take_of_length_le (by rw [sumB_len]; exact Nat.le_refl _)]
  exact (congrArg (List.take 16) h).trans (e _ _)
theorem sealed_set {p : Nat} {s : Bytes} {i : Nat} {b : UInt8} (h : Sealed p s) (hl : s.length = 64) (hi : i < 64) (hb : s[i]? ≠ some b) (hp : p < 10 ^ 8) : ¬ Sealed p (s.set i b) := by
  intro h'
  by_cases h16 : i < 16
  · have hd : (s.set i b).drop 16 = s.drop 16 := by rw [List.drop_set, if_pos h16]
    unfold Sealed at h h'
    rw [hd] at h'
    have e0 : s.set i b = s := h'.trans h.symm
    have e : (s.set i b)[i]? = some b := by rw [List.getElem?_set_self (by omega)]
    rw [e0] at e
    exact hb e
  · have hd : (s.set i b).drop 16 = (s.drop 16).set (i - 16) b := by rw [List.drop_set, if_neg h16]
    have ht : (s.set i b).take 16 = s.take 16 := by
      rw [List.take_set, List.set_eq_of_length_le (by rw [List.length_take]; omega)]
    have e2 := sealed_take h'
    rw [ht, sealed_take h, hd] at e2
    have hdl : (digitsB p 8).length = 8 := digitsB_len (k := 7) hp
    have e3 : digitsB p 8 ++ (s.drop 16).set (i - 16) b = (digitsB p 8 ++ s.drop 16).set (8 + (i - 16)) b := by
      rw [List.set_append, if_neg (by omega), hdl, Nat.add_sub_cancel_left]
    rw [e3] at e2
    refine sumB_set ?_ ?_ ?_ e2.symm
    · rw [List.length_append, hdl, List.length_drop]; omega
    · rw [List.length_append, hdl, List.length_drop, hl]; decide
    · rw [List.getElem?_append_right (by omega), hdl, List.getElem?_drop, show 16 + (8 + (i - 16) - 8) = i by omega]
      exact hb
theorem sealed_byte {p : Nat} {s : Bytes} (h : Sealed p s) {k : Nat} (hk : k < 16) : s[k]? ≠ some 0 := by
  intro h0
  have h1 : (s.take 16)[k]? = some 0 := by rw [List.getElem?_take, if_pos hk]; exact h0
  rw [sealed_take h] at h1
  exact hexB_pos _ _ _ (List.mem_of_getElem? h1) rfl
theorem zero_get {k : Nat} (hk : k < 64) : zeroB[k]? = some 0 := by
  unfold zeroB
  rw [List.getElem?_replicate, if_pos hk]
theorem count_rot {p room : Nat} {s : Bytes} (h : ¬ Sealed p s) (hz : s ≠ zeroB) : countB p s room = -1 := countB_none hz fun n hn he => h (by rw [← he]; exact sealB_sealed _ _)
theorem piece_rot {p : Nat} {s : Bytes} (h : ¬ Sealed p s) : pieceB p s = none := by
  unfold pieceB
  rw [find_no fun k hk => ?_]
  · rfl
  · simp only [Bool.and_eq_false_iff, decide_eq_false_iff_not, beq_eq_false_iff_ne]
    exact .inr fun he => h (by rw [← he]; exact sealB_sealed _ _)
/-- A head that rots counts no more. -/
theorem head_rot {p c room : Nat} {s : Bytes} {i : Nat} {b : UInt8} (h : s = headB p c ∨ (c = 0 ∧ s = zeroB)) (hi : i < 64) (hb : s[i]? ≠ some b) (hp : p < 10 ^ 8) : countB p (s.set i b) room = -1 := by
  obtain ⟨k, hk, hki⟩ : ∃ k, k < 16 ∧ k ≠ i := by
    by_cases h0 : i = 0
    · exact ⟨1, by omega, by omega⟩
    · exact ⟨0, by omega, by omega⟩
  rcases h with rfl | ⟨-, rfl⟩
  · have hs : Sealed p (headB p c) := sealB_sealed _ _
    refine count_rot (sealed_set hs (headB_len _ _) hi hb hp) fun hz => ?_
    have h1 : ((headB p c).set i b)[k]? = (headB p c)[k]? := List.getElem?_set_ne (Ne.symm hki)
    rw [hz, zero_get (by omega)] at h1
    exact sealed_byte hs hk h1.symm
  · refine count_rot (fun hs => ?_) fun hz => ?_
    · refine sealed_byte hs hk ?_
      rw [List.getElem?_set_ne (Ne.symm hki)]
      exact zero_get (by omega)
    · have h1 : (zeroB.set i b)[i]? = some b := by rw [List.getElem?_set_self (by rw [zeroB_len]; exact hi)]
      rw [hz] at h1
      exact hb h1
theorem fix_calm {m : Dm} (h : Calm m) {p : Nat} (hp : p < m.st.length) (old : Bytes) (c : Nat) : (fixB m p old c).2 = 0 ∧ Calm (fixB m p old c).1 ∧ (fixB m p old c).1.st.length = m.st.length := by
  have hz : ∀ x ∈ [zeroB], x.length = 64 := fun x hx => by simp at hx; subst hx; exact zeroB_len
  have hh : ∀ x ∈ [headB p c], x.length = 64 := fun x hx => by simp at hx; subst hx; exact headB_len _ _
  have e1 := writes_calm h (p := p) (ss := [zeroB]) (by simp; omega) hz
  have c1 := h.over (p := p) hz
  have l1 : (over m.st p [zeroB]).length = m.st.length := over_len _ _ _
  have e2 := writes_calm c1 (p := p) (ss := [headB p c]) (by dsimp only; rw [l1]; simp; omega) hh
  have c2 := c1.over (p := p) hh
  unfold fixB
  by_cases hc : old = headB p c ∨ (c = 0 ∧ old = zeroB)
  · rw [if_pos hc]
    exact ⟨rfl, h, rfl⟩
  · rw [if_neg hc, e1]
    by_cases h0 : 0 < c
    · rw [if_pos ⟨rfl, h0⟩, e2]
      exact ⟨rfl, c2, by dsimp only; rw [over_len, l1]⟩
    · rw [if_neg fun hx => h0 hx.2]
      exact ⟨rfl, c1, l1⟩
theorem open_calm {m : Dm} (h : Calm m) (h3 : 3 ≤ m.st.length) {c : Nat} {rs : List Bytes} (hf : findB m = .ok (c, rs)) : (openB m).2.1 = 0 ∧ (openB m).2.2.recs = rs := by
  obtain ⟨a1, a2, a3⟩ := fix_calm h (p := 0) (by omega) (Dk.look m 0) c
  obtain ⟨b1, b2, b3⟩ := fix_calm a2 (p := 1) (by omega) (Dk.look m 1) c
  rw [open_ok hf rfl rfl, if_neg (by simp [a1]), if_neg (by simp [b1])]
  exact ⟨rfl, rfl⟩
/-- One byte rots: the records are found, or the damage. -/
theorem rot_open {m : Dm} {j : Jm} (h : Inv m j) {s i : Nat} {b : UInt8} {t : Bytes} (hs : s < m.st.length) (ht : m.st[s]? = some t) (hi : i < 64) (hb : t[i]? ≠ some b) :
    ((openB { m with st := m.st.set s (t.set i b) }).2.1 = 0 ∧ (openB { m with st := m.st.set s (t.set i b) }).2.2.recs = j.recs) ∨ (openB { m with st := m.st.set s (t.set i b) }).2.1 = 27 := by
  obtain ⟨m', hm'⟩ : ∃ m' : Dm, m' = { m with st := m.st.set s (t.set i b) } := ⟨_, rfl⟩
  rw [← hm']
  have htl : t.length = 64 := h.calm.len t (List.mem_of_getElem? ht)
  have hc' : Calm m' := by
    rw [hm']
    refine ⟨h.calm.off, h.calm.al, h.calm.q, fun x hx => ?_⟩
    rcases List.mem_or_eq_of_mem_set hx with hx | hx
    · exact h.calm.len x hx
    · rw [hx, List.length_set]; exact htl
  have hl : m'.st.length = m.st.length := by rw [hm']; exact List.length_set
  have hlk : ∀ k, k ≠ s → Dk.look m' k = Dk.look m k := fun k hk => by
    rw [look_calm hc'.q, look_calm h.calm.q, hm', List.getD_eq_getElem?_getD, List.getD_eq_getElem?_getD]
    dsimp only
    rw [List.getElem?_set_ne (Ne.symm hk)]
  have hls : Dk.look m' s = t.set i b := by
    rw [look_calm hc'.q, hm', List.getD_eq_getElem?_getD]
    dsimp only
    rw [List.getElem?_set_self hs]
    rfl
  have hsec := h.sec
  have hlow := h.low
  have hhigh := h.high
  have hroom := h.room
  have hcount : ∀ p, p < 2 → p ≠ s → countB p (Dk.look m' p) (m'.st.length - 2) = j.count := fun p hp hps => by
    obtain ⟨x, hx, h1⟩ := h.head p hp
    rw [hlk p hps, look_calm h.calm.q, getD_of hx, hl]
    rcases h1 with rfl | ⟨h1, rfl⟩
    · exact countB_head (by omega) (by omega)
    · rw [countB_zero, h1]; rfl
  have hcs : s < 2 → countB s (Dk.look m' s) (m'.st.length - 2) = -1 := fun h2 => by
    obtain ⟨x, hx, h1⟩ := h.head s h2
    rw [ht] at hx
    cases hx
    rw [hls]
    exact head_rot h1 hi hb (by omega)
  have hmax : max (countB 0 (Dk.look m' 0) (m'.st.length - 2)) (countB 1 (Dk.look m' 1) (m'.st.length - 2)) = (j.count : Int) := by
    by_cases s0 : s = 0
    · subst s0
      rw [hcs (by omega), hcount 1 (by omega) (by omega)]
      omega
    · by_cases s1 : s = 1
      · subst s1
        rw [hcs (by omega), hcount 0 (by omega) (by omega)]
        omega
      · rw [hcount 0 (by omega) (Ne.symm s0), hcount 1 (by omega) (Ne.symm s1)]
        omega
  have hfl := find_law (m := m') (by rw [hc'.off]; decide) (by omega) rfl rfl
  rw [hmax, if_neg (by omega), Int.toNat_natCast] at hfl
  obtain ⟨ps, h1, h2, h3⟩ := h.pieces
  by_cases hin : 2 ≤ s ∧ s < 2 + j.count
  · right
    obtain ⟨e1, e2, e3⟩ := h2 (s - 2) _ (List.getElem?_eq_getElem (by omega))
    rw [show 2 + (s - 2) = s by omega, ht] at e1
    have e1 := Option.some.inj e1
    have hn : pieceB (2 + (s - 2)) (Dk.look m' (2 + (s - 2))) = none := by
      rw [show 2 + (s - 2) = s by omega, hls]
      refine piece_rot (sealed_set ?_ htl hi hb (by omega))
      rw [e1]
      exact sealB_sealed _ _
    rw [piecesOf_none (by omega) hn] at hfl
    rw [open_err hfl]
  · left
    have hp : piecesOf m' j.count = some ps := by
      refine piecesOf_some h1 fun k hk => ?_
      obtain ⟨e1, e2, e3⟩ := h2 k _ (List.getElem?_eq_getElem (by omega))
      rw [hlk _ (by omega), look_calm h.calm.q, getD_of e1, pieceB_sector e2 e3, List.getElem?_eq_getElem (by omega)]
    rw [hp] at hfl
    simp only [h3, parse_text _ h.recs] at hfl
    exact open_calm hc' (by omega) hfl
theorem modify_set {α : Type} (f : α → α) {l : List α} {i : Nat} {a : α} (h : l[i]? = some a) : l.modify i f = l.set i (f a) := by
  refine List.ext_getElem? fun k => ?_
  rw [List.getElem?_modify, List.getElem?_set]
  by_cases hk : i = k
  · subst hk
    obtain ⟨hl, rfl⟩ := List.getElem?_eq_some_iff.1 h
    simp [hl]
  · simp [hk]
theorem xor_ne {b c : UInt8} (h : c.toNat ≠ 0) : b ^^^ c ≠ b := fun he => by
  have h1 := congrArg UInt8.toNat he
  rw [UInt8.toNat_xor] at h1
  exact h (xor_inj' (c := b.toNat) (by rw [h1, Nat.xor_zero]))
theorem rot_any {m : Dm} {j : Jm} (h : Inv m j) (s a k : Int) : (Dk.rot m s a k).q = [] ∧ (((openB (Dk.rot m s a k)).2.1 = 0 ∧ (openB (Dk.rot m s a k)).2.2.recs = j.recs) ∨ (openB (Dk.rot m s a k)).2.1 = 27) := by
  unfold Dk.rot
  by_cases hok : Dk.rotOk m s a k = true
  · rw [if_pos hok]
    refine ⟨h.calm.q, ?_⟩
    simp only [Dk.rotOk, Dk.valid, Bool.and_eq_true, decide_eq_true_eq] at hok
    have hs : s.toNat < m.st.length := by omega
    have hts : m.st[s.toNat]? = some m.st[s.toNat] := List.getElem?_eq_getElem hs
    have htl : m.st[s.toNat].length = 64 := h.calm.len _ (List.getElem_mem hs)
    have ha : a.toNat < 64 := by omega
    have hta : (m.st[s.toNat])[a.toNat]? = some (m.st[s.toNat])[a.toNat] := List.getElem?_eq_getElem (by omega)
    rw [modify_set _ hts, modify_set _ hta]
    refine rot_open h hs hts ha fun he => ?_
    rw [hta] at he
    refine xor_ne ?_ (Option.some.inj he).symm
    rw [UInt8.toNat_ofNat']
    have : k.toNat % 2 ^ 8 = k.toNat := Nat.mod_eq_of_lt (by omega)
    omega
  · rw [if_neg hok]
    refine ⟨h.calm.q, .inl ?_⟩
    rw [h.open]
    exact ⟨rfl, rfl⟩
end Go.Cz.Jn
