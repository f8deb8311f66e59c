/-
  A text in parentheses, with gaps around it; plain Lean.
-/
import Derived.Test.YtoeknmkephnekaaGreatDoorFmLexes
namespace Go.Cz.Lx
theorem gap_line : ∀ (g : List UInt8) (b : Bool) (r : List UInt8), gapL b g = g.length → gapL b (g ++ 10 :: r) = g.length + 1 + gapL false r
  | [], true, r, _ => by simp [gapL]; omega
  | [], false, r, _ => by
    have : cls 10 = 1 := by decide
    simp [gapL, this]; omega
  | c :: g, true, r, h => by
    simp only [gapL, List.length_cons, List.cons_append] at h ⊢
    split at h
    · rename_i hc; rw [if_pos hc, gap_line g false r (by omega)]; omega
    · rename_i hc; rw [if_neg hc, gap_line g true r (by omega)]; omega
  | c :: g, false, r, h => by
    simp only [gapL, List.length_cons, List.cons_append] at h ⊢
    split at h
    · rename_i hc; rw [if_pos hc, gap_line g false r (by omega)]; omega
    · rename_i hc
      rw [if_neg hc]
      split at h
      · rename_i hd; rw [if_pos hd, gap_line g true r (by omega)]; omega
      · omega
theorem gap_inner : ∀ (g : List UInt8) (b : Bool) (r : List UInt8), gapL b g < g.length → gapL b (g ++ r) = gapL b g
  | [], b, r, h => by simp at h
  | c :: g, true, r, h => by
    simp only [gapL, List.length_cons, List.cons_append] at h ⊢
    split at h
    · rename_i hc; rw [if_pos hc, if_pos hc, gap_inner g false r (by omega)]
    · rename_i hc; rw [if_neg hc, if_neg hc, gap_inner g true r (by omega)]
  | c :: g, false, r, h => by
    simp only [gapL, List.length_cons, List.cons_append] at h ⊢
    split at h
    · rename_i hc; rw [if_pos hc, if_pos hc, gap_inner g false r (by omega)]
    · rename_i hc
      rw [if_neg hc, if_neg hc]
      split at h
      · rename_i hd; rw [if_pos hd, if_pos hd, gap_inner g true r (by omega)]
      · rename_i hd; rw [if_neg hd, if_neg hd]
theorem while_line {C : List Nat} (hC : C.contains 1 = false) (r : List UInt8) : ∀ y : List UInt8, whileN C (y ++ 10 :: r) = whileN C y
  | [] => by
    show whileN C (10 :: r) = 0
    unfold whileN
    rw [if_neg]
    rw [show cls 10 = 1 by decide, hC]
    simp
  | c :: y => by
    rw [List.cons_append]
    unfold whileN
    rw [while_line hC r y]
theorem idxQ_line (r : List UInt8) : ∀ y : List UInt8, idxQ (y ++ 10 :: r) = match idxQ y with | some n => some n | none => some y.length
  | [] => by simp [idxQ]
  | c :: y => by
    rw [List.cons_append]
    simp only [idxQ]
    by_cases h : c = 34 ∨ c = 10
    · rw [if_pos h, if_pos h]
    · rw [if_neg h, if_neg h, idxQ_line r y]
      rcases idxQ y with _ | n <;> simp
theorem atL_in (y r : List UInt8) {j : Nat} (h : j < y.length) : atL (y ++ r) j = atL y j := by
  unfold atL
  rw [List.getElem?_append_left h]
/-- A line feed behind the text changes no token. -/
theorem next_line (c : UInt8) (y r : List UInt8) : nextL (c :: y ++ 10 :: r) 0 = nextL (c :: y) 0 := by
  have e0 : atL (c :: y ++ 10 :: r) 0 = atL (c :: y) 0 := rfl
  have hw3 := while_line (C := [3, 4, 5]) rfl r (c :: y)
  have hw4 := while_line (C := [4]) rfl r (c :: y)
  have ht (k : Nat) (h : k ≤ (c :: y).length) : (c :: y ++ 10 :: r).take k = (c :: y).take k := List.take_append_of_le_length h
  have l3 := whileN_le [3, 4, 5] (c :: y)
  have l4 := whileN_le [4] (c :: y)
  have ha : ∀ q, q = 3 ∨ q = 5 → (atL (c :: y ++ 10 :: r) (whileN [4] (c :: y)) = q ↔ atL (c :: y) (whileN [4] (c :: y)) = q) := fun q hq => by
    by_cases h : whileN [4] (c :: y) < (c :: y).length
    · rw [atL_in _ _ h]
    · have e : whileN [4] (c :: y) = (c :: y).length := by omega
      rw [e]
      have e1 : atL (c :: y ++ 10 :: r) (c :: y).length = 1 := by
        unfold atL
        rw [List.getElem?_append_right (Nat.le_refl _), Nat.sub_self]
        rfl
      have e2 : atL (c :: y) (c :: y).length = 0 := atL_none (Nat.le_refl _)
      rw [e1, e2]
      omega
  unfold nextL
  rw [e0, List.drop_zero, List.drop_zero, hw3, hw4, Nat.zero_add, Nat.zero_add, ht _ l3, ht _ l4]
  by_cases h3 : atL (c :: y) 0 = 3
  · rw [if_pos h3, if_pos h3]
  rw [if_neg h3, if_neg h3]
  by_cases h4 : atL (c :: y) 0 = 4
  · rw [if_pos h4, if_pos h4]
    simp only [ha 3 (.inl rfl), ha 5 (.inr rfl)]
  rw [if_neg h4, if_neg h4]
  by_cases h6 : atL (c :: y) 0 = 6
  · rw [if_pos h6, if_pos h6]
    have ed : (c :: y ++ 10 :: r).drop 1 = y ++ 10 :: r := rfl
    have ed2 : (c :: y).drop 1 = y := rfl
    rw [ed, ed2, idxQ_line]
    rcases hq : idxQ y with _ | n
    · simp
    · have hn := idxQ_lt hq
      simp only
      rw [List.getElem?_append_left hn, List.take_append_of_le_length (by omega)]
  rw [if_neg h6, if_neg h6]
  have e1 : (c :: y ++ 10 :: r)[1]? = some 61 ↔ (c :: y)[1]? = some 61 := by
    cases y with
    | nil => simp
    | cons d y => simp
  by_cases h7 : (atL (c :: y) 0 = 7 ∨ atL (c :: y) 0 = 8) ∧ (c :: y)[1]? = some 61
  · rw [if_pos h7, if_pos ⟨h7.1, e1.2 h7.2⟩, ht 2 (by have := (List.getElem?_eq_some_iff.1 h7.2).1; omega)]
  · rw [if_neg h7, if_neg (fun h => h7 ⟨h.1, e1.1 h.2⟩), ht 1 (by simp)]
def sh (n : Nat) (t : Tok) : Tok := ⟨t.kind, n + t.pos, t.num, t.text⟩
theorem next_one {c : UInt8} (l : List UInt8) (hc : cls c = 9) : nextL (c :: l) 0 = .ok (⟨4, 0, 0, [c]⟩, 1) := by
  have e : atL (c :: l) 0 = 9 := hc
  unfold nextL
  rw [if_neg (by rw [e]; decide), if_neg (by rw [e]; decide), if_neg (by rw [e]; decide), if_neg (by rw [e]; simp), if_pos (.inr e)]
  rfl
section
variable {x g L : List UInt8} {n : Nat}
theorem lex_wrap (hL : ∀ i ≤ x.length, L.drop (n + i) = x.drop i ++ 10 :: (g ++ 10 :: 41 :: g)) (hlen : L.length = n + x.length + 2 * g.length + 3) (hg : gapL false g = g.length) (hx : x.length ≤ 2000) :
    ∀ (f i f2 : Nat) (acc acc2 : List Tok), i ≤ x.length → x.length - i < f → L.length - (n + i) < f2 → acc.length ≤ i → acc2.length ≤ i + 1 →
      (∀ e j, lexF x f (gapE x i) acc = .error (e, j) → lexF L f2 (gapE L (n + i)) acc2 = .error (e, n + j)) ∧
      (∀ ts, lexF x f (gapE x i) acc = .ok ts → ∃ us p, ts = acc ++ us ∧ lexF L f2 (gapE L (n + i)) acc2 = .ok (acc2 ++ (us.map (sh n) ++ [⟨4, p, 0, [41]⟩])))
  | 0, i, f2, acc, acc2, _, h, _, _, _ => by omega
  | f + 1, i, 0, acc, acc2, _, _, h, _, _ => by omega
  | f + 1, i, f2 + 1, acc, acc2, hi, hf, hf2, ha, ha2 => by
    obtain ⟨k, hk⟩ : ∃ k, k = gapL false (x.drop i) := ⟨_, rfl⟩
    have hkl := gapL_le (x.drop i) false
    rw [← hk] at hkl
    have ex : gapE x i = i + k := by unfold gapE; rw [hk]
    rw [List.length_drop] at hkl
    by_cases he : k = (x.drop i).length
    · have hr : gapL false (g ++ 10 :: 41 :: g) = g.length + 1 := by
        rw [gap_line g false _ hg]
        have : gapL false (41 :: g) = 0 := by
          simp only [gapL]
          rw [if_neg (by decide), if_neg (by decide)]
        rw [this]
      have eL : gapE L (n + i) = n + x.length + g.length + 2 := by
        unfold gapE
        rw [hL i hi, gap_line _ false _ (by rw [← hk]; exact he), hr, List.length_drop]
        omega
      rw [List.length_drop] at he
      have ed : L.drop (n + x.length + g.length + 2) = 41 :: g := by
        have h1 := hL x.length (Nat.le_refl _)
        rw [List.drop_length, List.nil_append] at h1
        have h2 : L.drop (n + x.length + g.length + 2) = (L.drop (n + x.length)).drop (g.length + 2) := by rw [List.drop_drop]; congr 1
        rw [h2, h1, List.drop_succ_cons, List.drop_append, List.drop_of_length_le (by omega), List.nil_append]
        rw [show g.length + 1 - g.length = 1 by omega]
        rfl
      have h0 : lexF x (f + 1) (gapE x i) acc = .ok acc := by
        simp only [lexF]
        rw [ex, if_neg (by omega)]
      have hn : nextL L (n + x.length + g.length + 2) = .ok (⟨4, n + x.length + g.length + 2, 0, [41]⟩, 1) := by
        rw [nextL_at, ed, next_one g (by decide)]
      have e3 : gapE L (n + x.length + g.length + 2 + 1) = L.length := by
        unfold gapE
        have h2 : L.drop (n + x.length + g.length + 2 + 1) = (L.drop (n + x.length + g.length + 2)).drop 1 := by rw [List.drop_drop]
        rw [h2, ed, List.drop_succ_cons, List.drop_zero, hg]
        omega
      refine ⟨fun e j h => by (rw [h0] at h; cases h), fun ts h => ⟨[], n + x.length + g.length + 2, ?_, ?_⟩⟩
      · rw [h0] at h
        simp only [Except.ok.injEq] at h
        rw [← h, List.append_nil]
      · rw [eL]
        simp only [lexF]
        rw [if_pos (by omega), hn]
        simp only
        rw [if_neg (by omega), e3]
        cases f2 with
        | zero => rfl
        | succ f2 =>
          simp only [lexF]
          rw [if_neg (by omega)]
          rfl
    · rw [List.length_drop] at he
      have eL : gapE L (n + i) = n + (i + k) := by
        unfold gapE
        rw [hL i hi, gap_inner _ false _ (by rw [← hk, List.length_drop]; omega), ← hk]
        omega
      obtain ⟨c, y, hy⟩ : ∃ c y, x.drop (i + k) = c :: y := by
        cases hd : x.drop (i + k) with
        | nil =>
          have := congrArg List.length hd
          rw [List.length_drop, List.length_nil] at this
          omega
        | cons c y => exact ⟨c, y, rfl⟩
      have hn1 := nextL_at x (i + k)
      have hn2 := nextL_at L (n + (i + k))
      rw [hL (i + k) (by omega), hy, next_line] at hn2
      rw [hy] at hn1
      rw [ex, eL]
      rcases hz : nextL (c :: y) 0 with e | ⟨t, w⟩
      · rw [hz] at hn1 hn2
        simp only at hn1 hn2
        refine ⟨fun e2 j h => ?_, fun ts h => ?_⟩
        · simp only [lexF] at h ⊢
          rw [if_pos (by omega), hn1] at h
          rw [if_pos (by omega), hn2]
          simp only [Except.error.injEq, Prod.mk.injEq] at h ⊢
          omega
        · simp only [lexF] at h
          rw [if_pos (by omega), hn1] at h
          simp at h
      · rw [hz] at hn1 hn2
        simp only at hn1 hn2
        obtain ⟨w1, w2⟩ := nextL_width hn1 (by omega)
        obtain ⟨ih1, ih2⟩ := lex_wrap hL hlen hg hx f (i + k + w) f2 (acc ++ [⟨t.kind, i + k, t.num, t.text⟩]) (acc2 ++ [⟨t.kind, n + (i + k), t.num, t.text⟩]) (by omega) (by omega) (by omega) (by simp; omega) (by simp; omega)
        have s1 : lexF x (f + 1) (i + k) acc = lexF x f (gapE x (i + k + w)) (acc ++ [⟨t.kind, i + k, t.num, t.text⟩]) := by
          simp only [lexF]
          rw [if_pos (by omega), hn1]
          simp only
          rw [if_neg (by omega)]
        have s2 : lexF L (f2 + 1) (n + (i + k)) acc2 = lexF L f2 (gapE L (n + (i + k + w))) (acc2 ++ [⟨t.kind, n + (i + k), t.num, t.text⟩]) := by
          simp only [lexF]
          rw [if_pos (by omega), hn2]
          simp only
          rw [if_neg (by omega), show n + (i + k) + w = n + (i + k + w) by omega]
        rw [s1, s2]
        refine ⟨ih1, fun ts h => ?_⟩
        obtain ⟨us, p, h1, h2⟩ := ih2 ts h
        refine ⟨⟨t.kind, i + k, t.num, t.text⟩ :: us, p, by rw [h1]; simp, ?_⟩
        rw [h2]
        simp [sh]
end
/-- The text in parentheses. -/
def wrapB (x g : List UInt8) : List UInt8 := (g ++ 10 :: 40 :: (g ++ [10])) ++ (x ++ 10 :: (g ++ 10 :: 41 :: g))
theorem lexAll_wrap {x g : List UInt8} (hg : gapL false g = g.length) (hx : x.length ≤ 2000) (hg2 : g.length ≤ 200) :
    ((lexAll x).2.1 ≠ 0 → 0 ≤ (lexAll x).2.2 ∧ lexAll (wrapB x g) = ([], (lexAll x).2.1, (lexAll x).2.2 + ((2 * g.length + 3 : Nat) : Int))) ∧
    ((lexAll x).2.1 = 0 → ∃ q p, lexAll (wrapB x g) = (⟨4, q, 0, [40]⟩ :: ((lexAll x).1.map (sh (2 * g.length + 3)) ++ [⟨4, p, 0, [41]⟩]), 0, 0)) := by
  obtain ⟨L, hL⟩ : ∃ L, L = wrapB x g := ⟨_, rfl⟩
  have hB : (g ++ 10 :: 40 :: (g ++ [10])).length = 2 * g.length + 3 := by simp; omega
  have hlen : L.length = 2 * g.length + 3 + x.length + 2 * g.length + 3 := by
    rw [hL, wrapB, List.length_append, hB]
    simp
    omega
  have hd : ∀ i ≤ x.length, L.drop (2 * g.length + 3 + i) = x.drop i ++ 10 :: (g ++ 10 :: 41 :: g) := fun i hi => by
    rw [hL, wrapB, List.drop_append, List.drop_of_length_le (by omega), List.nil_append, hB, Nat.add_sub_cancel_left, List.drop_append_of_le_length hi]
  have hL2 : L = g ++ 10 :: 40 :: (g ++ 10 :: (x ++ 10 :: (g ++ 10 :: 41 :: g))) := by rw [hL, wrapB]; simp
  have e0 : gapE L 0 = g.length + 1 := by
    unfold gapE
    rw [List.drop_zero, hL2, gap_line g false _ hg]
    have : ∀ r, gapL false (40 :: r) = 0 := fun r => by
      simp only [gapL]
      rw [if_neg (by decide), if_neg (by decide)]
    rw [this]
    omega
  have ed : L.drop (g.length + 1) = 40 :: (g ++ 10 :: (x ++ 10 :: (g ++ 10 :: 41 :: g))) := by
    rw [hL2, List.drop_append, List.drop_of_length_le (by omega), List.nil_append, show g.length + 1 - g.length = 1 by omega]
    rfl
  have hn : nextL L (g.length + 1) = .ok (⟨4, g.length + 1, 0, [40]⟩, 1) := by
    rw [nextL_at, ed, next_one _ (by decide)]
  have e1 : gapE L (g.length + 1 + 1) = gapE L (2 * g.length + 3 + 0) := by
    unfold gapE
    rw [hd 0 (by omega), List.drop_zero]
    have h2 : L.drop (g.length + 1 + 1) = (L.drop (g.length + 1)).drop 1 := by rw [List.drop_drop]
    rw [h2, ed, List.drop_succ_cons, List.drop_zero, gap_line g false _ hg]
    omega
  have s2 : lexF L (L.length + 1) (gapE L 0) [] = lexF L L.length (gapE L (2 * g.length + 3 + 0)) [⟨4, g.length + 1, 0, [40]⟩] := by
    simp only [lexF]
    rw [e0, if_pos (by omega), hn]
    simp only
    rw [if_neg (by simp), e1]
    rfl
  obtain ⟨w1, w2⟩ := lex_wrap hd hlen hg hx (x.length + 1) 0 L.length [] [⟨4, g.length + 1, 0, [40]⟩] (by omega) (by omega) (by omega) (by simp) (by simp)
  rw [← hL]
  unfold lexAll
  rw [if_neg (by omega), if_neg (by omega), s2]
  rcases hz : lexF x (x.length + 1) (gapE x 0) [] with ⟨e, j⟩ | ts
  · have := w1 e j hz
    rw [this]
    refine ⟨fun _ => ⟨by simp, ?_⟩, fun h => ?_⟩
    · simp only [Prod.mk.injEq, true_and]
      omega
    · exfalso
      have : ∀ (f i : Nat) (acc : List Tok), lexF x f i acc = .error (e, j) → e ≠ 0 := by
        intro f
        induction f with
        | zero => intro i acc h; simp [lexF] at h
        | succ f ih =>
          intro i acc h
          simp only [lexF] at h
          split at h
          · split at h
            · rename_i e2 h2
              have := nextL_err h2
              simp only [Except.error.injEq, Prod.mk.injEq] at h
              omega
            · split at h
              · simp only [Except.error.injEq, Prod.mk.injEq] at h
                omega
              · exact ih _ _ h
          · cases h
      exact this _ _ _ hz h
  · obtain ⟨us, p, h1, h2⟩ := w2 ts hz
    rw [h2]
    refine ⟨fun h => absurd rfl h, fun _ => ⟨g.length + 1, p, ?_⟩⟩
    rw [h1]
    rfl
end Go.Cz.Lx
namespace Go.Cz.Fo
set_option linter.unusedVariables false
set_option linter.unusedSimpArgs false
open Go.Cz.Lx
/-- What a reader does when a token that is no name follows. -/
def Ext (n : Nat) (u : Tok) (part part' : List Tok → Res) : Prop := ∀ ts, (∀ f r, part ts = .ok (f, r) → part' (ts.map (sh n) ++ [u]) = .ok (f, r.map (sh n) ++ [u]) ∧ r.length ≤ ts.length) ∧
  (∀ e, part ts = .error e → e.1 = 10 → 0 ≤ e.2 ∧ part' (ts.map (sh n) ++ [u]) = .error (10, e.2 + n))
section
variable {n : Nat} {u : Tok} {part part' : List Tok → Res} {w : Bytes} {fin fin' : Int}
theorem more_ext (hE : Ext n u part part') (hu : u.kind ≠ 1) : ∀ (k k' : Nat) (ts : List Tok), ts.length < k → ts.length < k' → (∀ ks r, moreF w part k ts = .ok (ks, r) → moreF w part' k' (ts.map (sh n) ++ [u]) = .ok (ks, r.map (sh n) ++ [u]) ∧ r.length ≤ ts.length) ∧
    (∀ e, moreF w part k ts = .error e → e.1 = 10 → 0 ≤ e.2 ∧ moreF w part' k' (ts.map (sh n) ++ [u]) = .error (10, e.2 + n))
  | 0, k', ts, h, _ => by omega
  | k + 1, 0, ts, _, h => by omega
  | k + 1, k' + 1, [], _, _ => by
    refine ⟨fun ks r h => ?_, fun e h => by simp [moreF] at h⟩
    simp only [moreF, Except.ok.injEq, Prod.mk.injEq] at h
    obtain ⟨rfl, rfl⟩ := h
    simp only [List.map_nil, List.nil_append, moreF]
    rw [if_neg (fun h => hu h.1)]
    exact ⟨rfl, Nat.le_refl _⟩
  | k + 1, k' + 1, t :: ts, hk, hk' => by
    simp only [List.length_cons] at hk hk'
    have es : (t :: ts).map (sh n) ++ [u] = sh n t :: (ts.map (sh n) ++ [u]) := rfl
    rw [es]
    simp only [moreF]
    by_cases hc : t.kind = 1 ∧ t.text = w
    · have hc2 : (sh n t).kind = 1 ∧ (sh n t).text = w := hc
      rw [if_pos hc, if_pos hc2]
      obtain ⟨p1, p2⟩ := hE ts
      rcases hp : part ts with e | ⟨f, r⟩
      · refine ⟨fun ks r h => by simp at h, fun e2 h he => ?_⟩
        simp only [Except.error.injEq] at h
        subst h
        obtain ⟨q1, q2⟩ := p2 _ hp he
        rw [q2]
        exact ⟨q1, rfl⟩
      · obtain ⟨q1, q2⟩ := p1 _ _ hp
        obtain ⟨i1, i2⟩ := more_ext hE hu k k' r (by omega) (by omega)
        rw [q1]
        simp only
        rcases hm : moreF w part k r with e | ⟨ks, r2⟩
        · refine ⟨fun ks r h => by simp at h, fun e2 h he => ?_⟩
          simp only [Except.error.injEq] at h
          subst h
          obtain ⟨j1, j2⟩ := i2 _ hm he
          rw [j2]
          exact ⟨j1, rfl⟩
        · obtain ⟨j1, j2⟩ := i1 _ _ hm
          rw [j1]
          refine ⟨fun ks' r' h => ?_, fun e h => by simp at h⟩
          simp only [Except.ok.injEq, Prod.mk.injEq] at h
          obtain ⟨rfl, rfl⟩ := h
          exact ⟨rfl, by simp only [List.length_cons]; omega⟩
    · have hc2 : ¬ ((sh n t).kind = 1 ∧ (sh n t).text = w) := hc
      rw [if_neg hc, if_neg hc2]
      refine ⟨fun ks r h => ?_, fun e h => by simp at h⟩
      simp only [Except.ok.injEq, Prod.mk.injEq] at h
      obtain ⟨rfl, rfl⟩ := h
      exact ⟨rfl, Nat.le_refl _⟩
theorem parts_ext (op : Int) (w : Bytes) (hE : Ext n u part part') (hu : u.kind ≠ 1) : Ext n u (partsF op w part) (partsF op w part') := fun ts => by
  obtain ⟨p1, p2⟩ := hE ts
  unfold partsF
  rcases hp : part ts with e | ⟨f, r⟩
  · refine ⟨fun ks r h => by simp at h, fun e2 h he => ?_⟩
    simp only [Except.error.injEq] at h
    subst h
    obtain ⟨q1, q2⟩ := p2 _ hp he
    rw [q2]
    exact ⟨q1, rfl⟩
  · obtain ⟨q1, q2⟩ := p1 _ _ hp
    obtain ⟨i1, i2⟩ := more_ext (w := w) hE hu (r.length + 1) ((r.map (sh n) ++ [u]).length + 1) r (by omega) (by simp; omega)
    rw [q1]
    simp only
    rcases hm : moreF w part (r.length + 1) r with e | ⟨ks, r2⟩
    · refine ⟨fun ks r h => by simp at h, fun e2 h he => ?_⟩
      simp only [Except.error.injEq] at h
      subst h
      obtain ⟨j1, j2⟩ := i2 _ hm he
      rw [j2]
      exact ⟨j1, rfl⟩
    · obtain ⟨j1, j2⟩ := i1 _ _ hm
      rw [j1]
      refine ⟨fun ks' r' h => ?_, fun e h => by simp at h⟩
      simp only [Except.ok.injEq, Prod.mk.injEq] at h
      obtain ⟨rfl, rfl⟩ := h
      exact ⟨rfl, by omega⟩
theorem test_ext (s : Bytes) : Ext n u (testF fin s) (testF fin' s) := fun ts => by
  match ts with
  | [] => exact ⟨fun f r h => by simp [testF] at h, fun e h he => by simp only [testF, Except.error.injEq] at h; subst h; simp at he⟩
  | c :: r =>
    have es : (c :: r).map (sh n) ++ [u] = sh n c :: (r.map (sh n) ++ [u]) := rfl
    rw [es]
    simp only [testF]
    by_cases h1 : c.kind ≠ 4 ∨ symI c.text = 0
    · rw [if_pos h1]
      exact ⟨fun f r h => by simp at h, fun e h he => by simp only [Except.error.injEq] at h; subst h; simp at he⟩
    · have h1' : ¬ ((sh n c).kind ≠ 4 ∨ symI (sh n c).text = 0) := h1
      rw [if_neg h1, if_neg h1']
      match r with
      | [] => exact ⟨fun f r h => by simp at h, fun e h he => by simp only [Except.error.injEq] at h; subst h; simp at he⟩
      | m :: r2 =>
        have es : (m :: r2).map (sh n) ++ [u] = sh n m :: (r2.map (sh n) ++ [u]) := rfl
        rw [es]
        simp only
        by_cases h2 : m.kind ≠ 2
        · rw [if_pos h2]
          exact ⟨fun f r h => by simp at h, fun e h he => by simp only [Except.error.injEq] at h; subst h; simp at he⟩
        have h2' : ¬ ((sh n m).kind ≠ 2) := h2
        rw [if_neg h2, if_neg h2']
        by_cases h3 : 1000000 < m.num
        · have h3' : 1000000 < (sh n m).num := h3
          rw [if_pos h3, if_pos h3']
          refine ⟨fun f r h => by simp at h, fun e h he => ?_⟩
          simp only [Except.error.injEq] at h
          subst h
          refine ⟨by simp, ?_⟩
          simp [sh]
          omega
        · have h3' : ¬ 1000000 < (sh n m).num := h3
          rw [if_neg h3, if_neg h3']
          refine ⟨fun f r h => ?_, fun e h => by simp at h⟩
          simp only [Except.ok.injEq, Prod.mk.injEq] at h
          obtain ⟨rfl, rfl⟩ := h
          exact ⟨rfl, by simp only [List.length_cons]; omega⟩
theorem one_ext (hu : u.kind ≠ 1) : ∀ m m' : Nat, m ≤ m' → Ext n u (oneF fin m) (oneF fin' m')
  | 0, _, _ => fun ts => ⟨fun f r h => by simp [oneF] at h, fun e h he => by simp only [oneF, Except.error.injEq] at h; subst h; simp at he⟩
  | m + 1, 0, h => by omega
  | m + 1, m' + 1, hm => fun ts => by
    match ts with
    | [] => exact ⟨fun f r h => by simp [oneF] at h, fun e h he => by simp only [oneF, Except.error.injEq] at h; subst h; simp at he⟩
    | t :: r =>
      have es : (t :: r).map (sh n) ++ [u] = sh n t :: (r.map (sh n) ++ [u]) := rfl
      have hI := one_ext hu m m' (by omega)
      rw [es]
      simp only [oneF]
      have d1 : (sh n t).kind = t.kind := rfl
      have d2 : (sh n t).text = t.text := rfl
      rw [d1, d2]
      by_cases h1 : t.kind = 1 ∧ t.text = wNot
      · rw [if_pos h1, if_pos h1]
        obtain ⟨p1, p2⟩ := hI r
        rcases hp : oneF fin m r with e | ⟨f, r2⟩
        · refine ⟨fun ks r h => by simp at h, fun e2 h he => ?_⟩
          simp only [Except.error.injEq] at h
          subst h
          obtain ⟨q1, q2⟩ := p2 _ hp he
          rw [q2]
          exact ⟨q1, rfl⟩
        · obtain ⟨q1, q2⟩ := p1 _ _ hp
          rw [q1]
          refine ⟨fun f r h => ?_, fun e h => by simp at h⟩
          simp only [Except.ok.injEq, Prod.mk.injEq] at h
          obtain ⟨rfl, rfl⟩ := h
          exact ⟨rfl, by simp only [List.length_cons]; omega⟩
      rw [if_neg h1, if_neg h1]
      by_cases h2 : t.kind = 1 ∧ t.text = wTrue
      · rw [if_pos h2, if_pos h2]
        refine ⟨fun f r h => ?_, fun e h => by simp at h⟩
        simp only [Except.ok.injEq, Prod.mk.injEq] at h
        obtain ⟨rfl, rfl⟩ := h
        exact ⟨rfl, by simp only [List.length_cons]; omega⟩
      rw [if_neg h2, if_neg h2]
      by_cases h3 : t.kind = 1 ∧ t.text = wFalse
      · rw [if_pos h3, if_pos h3]
        refine ⟨fun f r h => ?_, fun e h => by simp at h⟩
        simp only [Except.ok.injEq, Prod.mk.injEq] at h
        obtain ⟨rfl, rfl⟩ := h
        exact ⟨rfl, by simp only [List.length_cons]; omega⟩
      rw [if_neg h3, if_neg h3]
      by_cases h4 : t.kind = 4 ∧ t.text = [40]
      · rw [if_pos h4, if_pos h4]
        obtain ⟨p1, p2⟩ := parts_ext 6 wOr (parts_ext 5 wAnd hI hu) hu r
        rcases hp : partsF 6 wOr (partsF 5 wAnd (oneF fin m)) r with e | ⟨f, _ | ⟨v, r2⟩⟩
        · refine ⟨fun ks r h => by simp at h, fun e2 h he => ?_⟩
          simp only [Except.error.injEq] at h
          subst h
          obtain ⟨q1, q2⟩ := p2 _ hp he
          rw [q2]
          exact ⟨q1, rfl⟩
        · exact ⟨fun f r h => by simp at h, fun e h he => by simp only [Except.error.injEq] at h; subst h; simp at he⟩
        · obtain ⟨q1, q2⟩ := p1 _ _ hp
          rw [q1]
          have es : (v :: r2).map (sh n) ++ [u] = sh n v :: (r2.map (sh n) ++ [u]) := rfl
          rw [es]
          simp only
          by_cases h5 : v.kind = 4 ∧ v.text = [41]
          · have h5' : (sh n v).kind = 4 ∧ (sh n v).text = [41] := h5
            rw [if_pos h5, if_pos h5']
            refine ⟨fun f r h => ?_, fun e h => by simp at h⟩
            simp only [Except.ok.injEq, Prod.mk.injEq] at h
            obtain ⟨rfl, rfl⟩ := h
            simp only [List.length_cons] at q2
            exact ⟨rfl, by simp only [List.length_cons]; omega⟩
          · rw [if_neg h5]
            exact ⟨fun f r h => by simp at h, fun e h he => by simp only [Except.error.injEq] at h; subst h; simp at he⟩
      rw [if_neg h4, if_neg h4]
      by_cases h5 : t.kind ≠ 1 ∨ t.text = [] ∨ keyB t.text = true
      · rw [if_pos h5]
        exact ⟨fun f r h => by simp at h, fun e h he => by simp only [Except.error.injEq] at h; subst h; simp at he⟩
      · rw [if_neg h5, if_neg h5]
        obtain ⟨p1, p2⟩ := test_ext (n := n) (u := u) (fin := fin) (fin' := fin') t.text r
        refine ⟨fun f r' h => ?_, fun e h he => p2 e h he⟩
        obtain ⟨q1, q2⟩ := p1 f r' h
        exact ⟨q1, by simp only [List.length_cons]; omega⟩
end
theorem wr_op {f : Fm} (h : Wr f) : f.op ≠ 0 := by
  rcases h.forms with ⟨s, m, n, rfl, -⟩ | rfl | rfl | ⟨k, rfl⟩ | ⟨a, b, r, rfl⟩ | ⟨a, b, r, rfl⟩ <;> simp [Fm.op]
theorem parse_op {l : Bytes} {f : Fm} {at' : Int} (h : parseF l = (f, 0, at')) : f.op ≠ 0 := by
  have := parse_writes h
  unfold textE at this
  split at this
  · simp at this
  · rename_i h1
    simp only [not_or, ne_eq, Decidable.not_not] at h1
    exact wr_op h1.2
/-- The law of gaps. -/
theorem gaps_law {x g : Bytes} (hg : gapL false g = g.length) (hx : x.length ≤ 2000) (hg2 : g.length ≤ 200) :
    ((parseF x).2.1 = 5 ∨ (parseF x).2.1 = 6 → (parseF (wrapB x g)).2.1 ≠ 0 ∨ (parseF (wrapB x g)).1.op ≠ 0) ∧
    (¬ ((parseF x).2.1 = 5 ∨ (parseF x).2.1 = 6) → (parseF (wrapB x g)).2.1 = (parseF x).2.1 ∧ (parseF (wrapB x g)).1 = (parseF x).1 ∧
      (((parseF x).2.1 = 0 ∧ (parseF (wrapB x g)).2.2 = 0) ∨ ((parseF x).2.1 ≠ 0 ∧ (((parseF x).2.2 = -1 ∧ (parseF (wrapB x g)).2.2 = -1) ∨ (0 ≤ (parseF x).2.2 ∧ (parseF (wrapB x g)).2.2 = (parseF x).2.2 + ((2 * g.length + 3 : Nat) : Int)))))) := by
  refine ⟨fun _ => ?_, fun hne => ?_⟩
  · by_cases h : (parseF (wrapB x g)).2.1 = 0
    · exact .inr (parse_op (l := wrapB x g) (at' := (parseF (wrapB x g)).2.2) (by rw [← h]))
    · exact .inl h
  · obtain ⟨l1, l2⟩ := lexAll_wrap hg hx hg2
    by_cases h0 : (lexAll x).2.1 = 0
    · obtain ⟨q, p, hl⟩ := l2 h0
      obtain ⟨ts, hts⟩ : ∃ ts, ts = (lexAll x).1 := ⟨_, rfl⟩
      rw [← hts] at hl
      have hE := parts_ext (n := 2 * g.length + 3) (u := ⟨4, p, 0, [41]⟩) 6 wOr (parts_ext 5 wAnd (one_ext (fin := x.length) (fin' := (wrapB x g).length) (by simp) (ts.length + 1) (ts.length + 2) (by omega)) (by simp)) (by simp) ts
      obtain ⟨p1, p2⟩ := hE
      have hx1 : parseF x = match partsF 6 wOr (partsF 5 wAnd (oneF x.length (ts.length + 1))) ts with
          | .error e => (zeroF, e.1, e.2)
          | .ok (f, t :: r) => (zeroF, 5, t.pos)
          | .ok (f, []) => if largeB f = true then (zeroF, 2, -1) else (f, 0, 0) := by
        unfold parseF eitherF
        rw [if_neg (by simpa using h0), ← hts]
        rfl
      have hone : oneF (wrapB x g).length (ts.length + 2 + 1) (⟨4, q, 0, [40]⟩ :: (ts.map (sh (2 * g.length + 3)) ++ [⟨4, p, 0, [41]⟩])) =
          match partsF 6 wOr (partsF 5 wAnd (oneF (wrapB x g).length (ts.length + 2))) (ts.map (sh (2 * g.length + 3)) ++ [⟨4, p, 0, [41]⟩]) with
          | .error e => .error e
          | .ok (f, []) => .error (6, (wrapB x g).length)
          | .ok (f, u :: r2) => if u.kind = 4 ∧ u.text = [41] then .ok (f, r2) else .error (5, u.pos) := by
        simp only [oneF]
        rw [if_neg (by simp), if_neg (by simp), if_neg (by simp), if_pos (by simp)]
        rfl
      have hx2 : parseF (wrapB x g) = match partsF 6 wOr (partsF 5 wAnd (oneF (wrapB x g).length (ts.length + 2 + 1))) (⟨4, q, 0, [40]⟩ :: (ts.map (sh (2 * g.length + 3)) ++ [⟨4, p, 0, [41]⟩])) with
          | .error e => (zeroF, e.1, e.2)
          | .ok (f, t :: r) => (zeroF, 5, t.pos)
          | .ok (f, []) => if largeB f = true then (zeroF, 2, -1) else (f, 0, 0) := by
        unfold parseF eitherF
        rw [hl]
        simp only [ne_eq, not_true_eq_false, if_false, List.length_cons, List.length_append, List.length_map, List.length_nil]
        rfl
      rcases hz : partsF 6 wOr (partsF 5 wAnd (oneF x.length (ts.length + 1))) ts with e | ⟨f, _ | ⟨t, r⟩⟩
      · rw [hz] at hx1
        simp only at hx1
        rw [hx1] at hne ⊢
        have he : e.1 = 10 := by
          have := either_err (fin := x.length) (ts.length + 1) ts e hz
          simp only at hne
          omega
        obtain ⟨q1, q2⟩ := p2 e hz he
        rw [q2] at hone
        simp only at hone
        have hy : parseF (wrapB x g) = (zeroF, 10, e.2 + ((2 * g.length + 3 : Nat) : Int)) := by
          rw [hx2]
          unfold partsF
          rw [hone]
        rw [hy]
        simp only
        exact ⟨he.symm, trivial, .inr ⟨by omega, .inr ⟨q1, trivial⟩⟩⟩
      · rw [hz] at hx1
        simp only at hx1
        obtain ⟨q1, -⟩ := p1 f [] hz
        rw [q1] at hone
        simp only [List.map_nil, List.nil_append, true_and, and_self, if_true] at hone
        have hy : parseF (wrapB x g) = if largeB f = true then (zeroF, 2, -1) else (f, 0, 0) := by
          rw [hx2]
          unfold partsF
          rw [hone]
          simp [moreF]
        rw [hy, ← hx1]
        refine ⟨rfl, rfl, ?_⟩
        rw [hx1]
        split
        · exact .inr ⟨by simp, .inl ⟨rfl, rfl⟩⟩
        · exact .inl ⟨rfl, rfl⟩
      · rw [hz] at hx1
        simp only at hx1
        rw [hx1] at hne
        simp at hne
    · obtain ⟨hp, hl⟩ := l1 h0
      have hx1 : parseF x = (zeroF, (lexAll x).2.1, (lexAll x).2.2) := by
        unfold parseF
        rw [if_pos h0]
      have hx2 : parseF (wrapB x g) = (zeroF, (lexAll x).2.1, (lexAll x).2.2 + ((2 * g.length + 3 : Nat) : Int)) := by
        unfold parseF
        rw [hl]
        simp only
        rw [if_pos h0]
      rw [hx1, hx2]
      exact ⟨rfl, rfl, .inr ⟨h0, .inr ⟨hp, rfl⟩⟩⟩
end Go.Cz.Fo
