/-
  The texts of measures, and what the parser makes of a text; plain Lean.
  A part of a text has the tokens that lie in it; plain Lean.
  The text of a measure is read as the measure; plain Lean.
  What is read from a text is a measure that has a text; where errors stand; plain Lean.
  Tokens with line feeds behind them are read as the text; plain Lean.
-/
import Derived.Test.YtoeknmkephnekaaGreatDoorVdModel
import Derived.Test.YtoeknmkephnekaaGreatDoorFmLexes
import Derived.Test.YtoeknmkephnekaaGreatDoorFmPos
import Derived.Test.YtoeknmkephnekaaGreatDoorFmGap
namespace Go.Cz.Vd
set_option linter.unusedVariables false
open Go.Cz.Lx Go.Cz.Fo
open Go.Cz.Wn (datedB)
def wForbid : Bytes := [102, 111, 114, 98, 105, 100]
def wExempt : Bytes := [101, 120, 101, 109, 112, 116]
def wBlock : Bytes := [98, 108, 111, 99, 107]
def wOf : Bytes := [111, 102]
def wIf : Bytes := [105, 102]
def wFrom : Bytes := [102, 114, 111, 109]
def wUntil : Bytes := [117, 110, 116, 105, 108]
def wWind : Bytes := [119, 105, 110, 100]
def wKind (k : Int) : Bytes := if k = 1 then wForbid else if k = 2 then wExempt else if k = 3 then wBlock else []
/-- A measure that has a text. -/
def wrM (m : Me) : Bool := decide (textE m.cond = 0) && (namedM m && datedB m.kind m.fr m.un m.wi)
/-- The words of a measure's text. -/
def wordsM (m : Me) : List Bytes :=
  [wKind m.kind] ++ ((if m.target = [] then [] else [m.target]) ++ ([m.id, wOf, m.auth] ++ ((if m.cond.op = 1 then [] else [wIf, textF Lib.itoa m.cond]) ++
    ([wFrom, Lib.itoa m.fr] ++ ((if 0 ≤ m.un then [wUntil, Lib.itoa m.un] else []) ++ (if 0 < m.wi then [wWind, Lib.itoa m.wi] else []))))))
def sayM (m : Me) : Bytes := joinB [32] (wordsM m) ++ [59]
/-- What 'Text' answers. -/
def textM (m : Me) : Bytes × Nat := if wrM m = true then (sayM m, 0) else ([], 1)
def zeroM : Me := ⟨[], [], 0, [], zeroF, 0, 0, 0⟩
def trueF : Fm := .mk 1 [] 0 0 []
/-- An error at an offset. -/
abbrev Er := Nat × Int
def takeM (fin : Int) (kind : Nat) (text : Bytes) : List Tok → Except Er (Tok × List Tok)
  | [] => .error (6, fin)
  | t :: r => if t.kind ≠ kind ∨ (text ≠ [] ∧ t.text ≠ text) then .error (5, t.pos) else .ok (t, r)
def nameM (fin : Int) (no : Bytes) (ts : List Tok) : Except Er (Bytes × List Tok) :=
  match takeM fin 1 [] ts with
  | .error e => .error e
  | .ok (t, r) => if t.text = no then .error (1, t.pos) else .ok (t.text, r)
def numM (fin least most : Int) (ts : List Tok) : Except Er (Int × List Tok) :=
  match takeM fin 2 [] ts with
  | .error e => .error e
  | .ok (t, r) => if (t.num : Int) < least ∨ most < (t.num : Int) then .error (10, t.pos) else .ok ((t.num : Int), r)
def seesM (w : Bytes) : List Tok → Bool
  | [] => false
  | t :: _ => decide (t.kind = 1) && decide (t.text = w)
/-- The word 'from' and a number come next. -/
def termB : List Tok → Bool
  | t :: u :: _ => decide (t.kind = 1) && (decide (t.text = wFrom) && decide (u.kind = 2))
  | _ => false
/-- How many tokens stand before 'from' and a number. -/
def fromM : List Tok → Nat
  | [] => 0
  | t :: r => if termB (t :: r) = true then 0 else fromM r + 1
def endM (l : Bytes) : List Tok → Nat
  | [] => l.length
  | t :: _ => t.pos
/-- What is said of what a formula's text was read as. -/
def condE (begin fin : Nat) (closed : Bool) (p : Fm × Nat × Int) : Option Er :=
  if p.2.1 = 6 ∧ closed = true then some (5, (fin : Int)) else if p.2.1 = 0 then none else if p.2.2 < 0 then some (p.2.1, p.2.2) else some (p.2.1, (begin : Int) + p.2.2)
/-- A formula is read, up to 'from' and a number. -/
def condM (l : Bytes) (begin : Nat) (ts : List Tok) : Except Er (Fm × List Tok) :=
  match condE begin (endM l (ts.drop (fromM ts))) (decide (fromM ts < ts.length)) (parseF ((l.take (endM l (ts.drop (fromM ts)))).drop begin)) with
  | some e => .error e
  | none => .ok ((parseF ((l.take (endM l (ts.drop (fromM ts)))).drop begin)).1, ts.drop (fromM ts))
/-- The condition, if there is one. -/
def ifM (l : Bytes) (ts : List Tok) : Except Er (Fm × List Tok) :=
  if seesM wIf ts = true then condM l (endM l ts + 2) ts.tail else .ok (trueF, ts)
def untilM (fin fr : Int) (ts : List Tok) : Except Er (Int × List Tok) :=
  if seesM wUntil ts = true then numM fin (fr + 1) 100000 ts.tail else .ok (-1, ts)
def windM (fin kind : Int) (ts : List Tok) : Except Er (Int × List Tok) :=
  if kind = 1 ∧ seesM wWind ts = true then numM fin 0 400 ts.tail else .ok (0, ts)
def closeM (fin : Int) (ts : List Tok) : Except Er Unit :=
  match takeM fin 4 [59] ts with
  | .error e => .error e
  | .ok (_, []) => .ok ()
  | .ok (_, t :: _) => .error (5, t.pos)
/-- What follows the names. -/
def datesM (fin : Int) (m : Me) (ts : List Tok) : Except Er Me :=
  match takeM fin 1 wFrom ts with
  | .error e => .error e
  | .ok (_, ts) => match numM fin 0 100000 ts with
    | .error e => .error e
    | .ok (fr, ts) => match untilM fin fr ts with
      | .error e => .error e
      | .ok (un, ts) => match windM fin m.kind ts with
        | .error e => .error e
        | .ok (wi, ts) => match closeM fin ts with
          | .error e => .error e
          | .ok _ => .ok { m with fr := fr, un := un, wi := wi }
def bodyM (l : Bytes) (m : Me) (ts : List Tok) : Except Er Me :=
  match ifM l ts with
  | .error e => .error e
  | .ok (f, ts) => datesM (l.length : Int) { m with cond := f } ts
/-- The names: an id that is not a text, an authority that is not a text. -/
def idsM (fin : Int) (noId noAuth : Bytes) (m : Me) (ts : List Tok) : Except Er (Me × List Tok) :=
  match nameM fin noId ts with
  | .error e => .error e
  | .ok (a, ts) => match takeM fin 1 wOf ts with
    | .error e => .error e
    | .ok (_, ts) => match nameM fin noAuth ts with
      | .error e => .error e
      | .ok (b, ts) => .ok ({ m with id := a, auth := b }, ts)
def startM (k : Int) : Me := ⟨[], [], k, [], trueF, 0, -1, 0⟩
def kindM (w : Bytes) : Int := if w = wForbid then 1 else if w = wExempt then 2 else if w = wBlock then 3 else 0
def targetM (fin : Int) (k : Int) (ts : List Tok) : Except Er (Me × List Tok) :=
  if k = 1 then idsM fin [] [] (startM 1) ts
  else match nameM fin [] ts with
    | .error e => .error e
    | .ok (t, ts) => idsM fin (if k = 2 then t else []) (if k = 3 then t else []) { startM k with target := t } ts
def measureM (l : Bytes) (ts : List Tok) : Except Er Me :=
  match takeM (l.length : Int) 1 [] ts with
  | .error e => .error e
  | .ok (t, ts) => if kindM t.text = 0 then .error (5, t.pos) else
    match targetM (l.length : Int) (kindM t.text) ts with
    | .error e => .error e
    | .ok (m, ts) => bodyM l m ts
/-- What 'Parse' answers. -/
def parseM (l : Bytes) : Me × Nat × Int :=
  if (lexAll l).2.1 ≠ 0 then (zeroM, (lexAll l).2.1, (lexAll l).2.2)
  else match measureM l (lexAll l).1 with
    | .error e => (zeroM, e.1, e.2)
    | .ok m => (m, 0, 0)
def sameM (a b : Me) : Bool := decide (a.id = b.id) && (decide (a.auth = b.auth) && (decide (a.kind = b.kind) && (decide (a.target = b.target) && (decide (a.fr = b.fr) && (decide (a.un = b.un) && (decide (a.wi = b.wi) && sameF a.cond b.cond))))))
theorem sameM_iff {a b : Me} : sameM a b = true ↔ a = b := by
  obtain ⟨a1, a2, a3, a4, a5, a6, a7, a8⟩ := a
  obtain ⟨b1, b2, b3, b4, b5, b6, b7, b8⟩ := b
  simp only [sameM, Bool.and_eq_true, decide_eq_true_eq, sameF_iff, Me.mk.injEq]
  exact ⟨fun ⟨h1, h2, h3, h4, h6, h7, h8, h5⟩ => ⟨h1, h2, h3, h4, h5, h6, h7, h8⟩, fun ⟨h1, h2, h3, h4, h5, h6, h7, h8⟩ => ⟨h1, h2, h3, h4, h6, h7, h8, h5⟩⟩
end Go.Cz.Vd
namespace Go.Cz.Lx
theorem gap_take : ∀ (x : List UInt8) (b : Bool) (n : Nat), gapL b (x.take n) = min n (gapL b x)
  | [], b, n => by cases b <;> simp [gapL]
  | c :: x, b, 0 => by cases b <;> simp [gapL]
  | c :: x, true, n + 1 => by
    rw [List.take_succ_cons]
    simp only [gapL]
    split
    · rw [gap_take x false n]; omega
    · rw [gap_take x true n]; omega
  | c :: x, false, n + 1 => by
    rw [List.take_succ_cons]
    simp only [gapL]
    split
    · rw [gap_take x false n]; omega
    · split
      · rw [gap_take x true n]; omega
      · omega
theorem while_take {C : List Nat} : ∀ (x : List UInt8) (n : Nat), whileN C (x.take n) = min n (whileN C x)
  | [], n => by simp [whileN]
  | c :: x, 0 => by simp [whileN]
  | c :: x, n + 1 => by
    rw [List.take_succ_cons]
    unfold whileN
    split
    · rw [while_take x n]; omega
    · omega
theorem idxQ_take : ∀ {x : List UInt8} {m n : Nat}, idxQ x = some m → m < n → idxQ (x.take n) = some m
  | [], m, n, h, _ => by simp [idxQ] at h
  | c :: x, m, 0, _, h => by omega
  | c :: x, m, n + 1, h, hn => by
    rw [List.take_succ_cons]
    unfold idxQ at h ⊢
    split at h
    · rename_i hc; rw [if_pos hc]; exact h
    · rename_i hc
      rw [if_neg hc]
      rcases h1 : idxQ x with _ | q
      · rw [h1] at h; simp at h
      · rw [h1] at h
        simp at h
        rw [idxQ_take h1 (by omega)]
        simp [h]
theorem atL_take (x : List UInt8) (n j : Nat) : atL (x.take n) j = if j < n then atL x j else 0 := by
  unfold atL
  rw [List.getElem?_take]
  by_cases h : j < n
  · rw [if_pos h, if_pos h]
  · rw [if_neg h, if_neg h]
/-- A token does not see what comes behind its end. -/
theorem next_take {x : List UInt8} {t : Tok} {k n : Nat} (h : nextL x 0 = .ok (t, k)) (hk : k ≤ n) (h1 : 1 ≤ k) : nextL (x.take n) 0 = .ok (t, k) := by
  have e0 : atL (x.take n) 0 = atL x 0 := by rw [atL_take, if_pos (by omega)]
  have ht : ∀ j ≤ n, (x.take n).take j = x.take j := fun j hj => by rw [List.take_take, Nat.min_eq_left hj]
  unfold nextL at h ⊢
  rw [e0]
  rw [List.drop_zero] at h ⊢
  rw [while_take, while_take]
  by_cases h3 : atL x 0 = 3
  · rw [if_pos h3] at h ⊢
    split at h
    · cases h
    · rename_i hw
      simp only [Except.ok.injEq, Prod.mk.injEq] at h
      obtain ⟨h2, rfl⟩ := h
      rw [Nat.min_eq_right hk, if_neg hw, ht _ hk, h2]
  rw [if_neg h3] at h ⊢
  by_cases h4 : atL x 0 = 4
  · rw [if_pos h4] at h ⊢
    split at h
    · cases h
    · rename_i hw
      simp only [Except.ok.injEq, Prod.mk.injEq] at h
      obtain ⟨h2, rfl⟩ := h
      rw [Nat.min_eq_right hk, ht _ hk, h2, atL_take, if_neg]
      rintro (h5 | h5 | h5)
      · exact hw (.inl h5)
      · split at h5
        · exact hw (.inr (.inl h5))
        · cases h5
      · split at h5
        · exact hw (.inr (.inr h5))
        · cases h5
  rw [if_neg h4] at h ⊢
  by_cases h6 : atL x 0 = 6
  · rw [if_pos h6] at h ⊢
    rcases hq : idxQ (x.drop (0 + 1)) with _ | m
    · rw [hq] at h; simp at h
    · rw [hq] at h
      simp only at h
      split at h
      · cases h
      rename_i h7
      split at h
      · cases h
      rename_i h8
      simp only [Except.ok.injEq, Prod.mk.injEq] at h
      obtain ⟨h2, rfl⟩ := h
      have hd : (x.take n).drop (0 + 1) = (x.drop (0 + 1)).take (n - 1) := by rw [List.drop_take]
      rw [hd, idxQ_take hq (by omega)]
      simp only
      rw [if_neg, if_neg h8, List.take_take, Nat.min_eq_left (by omega), h2]
      rw [List.getElem?_take, if_pos (by omega)]
      exact h7
  rw [if_neg h6] at h ⊢
  by_cases h7 : (atL x 0 = 7 ∨ atL x 0 = 8) ∧ x[0 + 1]? = some 61
  · rw [if_pos h7] at h
    simp only [Except.ok.injEq, Prod.mk.injEq] at h
    obtain ⟨h2, rfl⟩ := h
    rw [if_pos ⟨h7.1, by rw [List.getElem?_take, if_pos (by omega)]; exact h7.2⟩, ht _ hk, h2]
  · rw [if_neg h7] at h
    split at h
    · rename_i h8
      simp only [Except.ok.injEq, Prod.mk.injEq] at h
      obtain ⟨h2, rfl⟩ := h
      rw [if_neg, if_pos h8, ht _ hk, h2]
      rintro ⟨h9, h10⟩
      rw [List.getElem?_take] at h10
      split at h10
      · exact h7 ⟨h9, h10⟩
      · cases h10
    · cases h
/-- The tokens of a text from an offset on, where they stand. -/
inductive LexP (l : List UInt8) : Nat → List Tok → Prop
  | nil {i} : gapE l i = l.length → LexP l i []
  | cons {i t k ts} : gapE l i < l.length → nextL l (gapE l i) = .ok (t, k) → LexP l (gapE l i + k) ts → LexP l i (t :: ts)
theorem lexF_p {l : List UInt8} : ∀ (f i : Nat) (acc ts : List Tok), i ≤ l.length → l.length - i < f → acc.length ≤ 5000 → lexF l f (gapE l i) acc = .ok ts → ∃ us, ts = acc ++ us ∧ LexP l i us ∧ ts.length ≤ 5000
  | 0, i, acc, ts, _, h, _, _ => by omega
  | f + 1, i, acc, ts, hi, hf, ha, h => by
    have hg := gapE_le l i hi
    simp only [lexF] at h
    split at h
    · rename_i hlt
      split at h
      · cases h
      · rename_i t k hn
        split at h
        · cases h
        · rename_i h5
          obtain ⟨w1, w2⟩ := nextL_width hn hlt
          have hge : i ≤ gapE l i := by unfold gapE; omega
          obtain ⟨us, h1, h2, h3⟩ := lexF_p f (gapE l i + k) (acc ++ [t]) ts w2 (by omega) (by simp; omega) h
          exact ⟨t :: us, by rw [h1]; simp, .cons hlt hn h2, h3⟩
    · simp only [Except.ok.injEq] at h
      exact ⟨[], by rw [h]; simp, .nil (by omega), by rw [← h]; exact ha⟩
theorem lexAll_p {l : List UInt8} (h : (lexAll l).2.1 = 0) : LexP l 0 (lexAll l).1 ∧ l.length ≤ 20000 ∧ (lexAll l).1.length ≤ 5000 := by
  unfold lexAll at h ⊢
  split at h
  · simp at h
  · rename_i hl
    rw [if_neg hl]
    split at h
    · rename_i e i he
      exfalso
      simp only at h
      subst h
      have : ∀ (f i : Nat) (acc : List Tok) (e j : Nat), lexF l f i acc = .error (e, j) → e ≠ 0 := by
        intro f
        induction f with
        | zero => intro i acc e j h; simp [lexF] at h
        | succ f ih =>
          intro i acc e j h
          simp only [lexF] at h
          split at h
          · split at h
            · rename_i e2 h2
              have := nextL_err h2
              simp only [Except.error.injEq, Prod.mk.injEq] at h
              omega
            · split at h
              · simp only [Except.error.injEq, Prod.mk.injEq] at h
                omega
              · exact ih _ _ _ _ h
          · cases h
      exact this _ _ _ _ _ he rfl
    · rename_i ts he
      obtain ⟨us, h1, h2, h3⟩ := lexF_p _ 0 [] ts (by omega) (by omega) (by simp) he
      simp only [List.nil_append] at h1
      subst h1
      exact ⟨h2, by omega, h3⟩
end Go.Cz.Lx
namespace Go.Cz.Fo
open Go.Cz.Lx
/-- The tokens up to the end of the text. -/
theorem LexP.rest {l : Bytes} {i : Nat} {ts : List Tok} (h : LexP l i ts) : Lexes (l.drop i) (ts.map strip) := by
  induction h with
  | @nil i h =>
    refine .nil ?_
    unfold gapE at h
    have := gapL_le (l.drop i) false
    rw [List.length_drop] at this ⊢
    omega
  | @cons i t k ts h1 h2 h3 ih =>
    have h4 := nextL_at l (gapE l i)
    rw [h2] at h4
    rcases hz : nextL (l.drop (gapE l i)) 0 with e | ⟨u, k'⟩
    · rw [hz] at h4; simp at h4
    · rw [hz] at h4
      simp only [Except.ok.injEq, Prod.mk.injEq] at h4
      obtain ⟨rfl, rfl⟩ := h4
      have hd : (l.drop i).drop (gapL false (l.drop i)) = l.drop (gapE l i) := by rw [List.drop_drop]; rfl
      refine Lexes.cons (t := u) (k := k) ?_ ?_ ?_
      · unfold gapE at h1
        rw [List.length_drop]
        omega
      · rw [hd]; exact hz
      · rw [hd, List.drop_drop]
        exact ih
theorem LexP.ge {l : Bytes} {u : Tok} : ∀ {B C : List Tok} {i : Nat}, LexP l i (B ++ u :: C) → i ≤ u.pos ∧ u.pos < l.length
  | [], C, i, h => by
    cases h with
    | cons h1 h2 h3 =>
      have := nextL_pos h2
      rw [this]
      exact ⟨by unfold gapE; omega, h1⟩
  | t :: B, C, i, h => by
    rw [List.cons_append] at h
    cases h with
    | cons h1 h2 h3 =>
      have := LexP.ge h3
      unfold gapE at this
      omega
/-- The tokens up to a token. -/
theorem LexP.mid {l : Bytes} {u : Tok} : ∀ {B C : List Tok} {i : Nat}, LexP l i (B ++ u :: C) → Lexes ((l.drop i).take (u.pos - i)) (B.map strip)
  | [], C, i, h => by
    cases h with
    | cons h1 h2 h3 =>
      have hp := nextL_pos h2
      refine .nil ?_
      rw [gap_take, List.length_take, hp]
      unfold gapE at h1 ⊢
      have := gapL_le (l.drop i) false
      omega
  | t :: B, C, i, h => by
    rw [List.cons_append] at h
    cases h with
    | @cons _ _ k _ h1 h2 h3 =>
      have hge := LexP.ge h3
      have hm := LexP.mid h3
      have h4 := nextL_at l (gapE l i)
      rw [h2] at h4
      rcases hz : nextL (l.drop (gapE l i)) 0 with e | ⟨v, k'⟩
      · rw [hz] at h4; simp at h4
      · rw [hz] at h4
        simp only [Except.ok.injEq, Prod.mk.injEq] at h4
        obtain ⟨rfl, rfl⟩ := h4
        obtain ⟨w1, w2⟩ := nextL_width h2 h1
        obtain ⟨g, hg⟩ : ∃ g, g = gapL false (l.drop i) := ⟨_, rfl⟩
        have he : gapE l i = i + g := by unfold gapE; rw [hg]
        rw [he] at hge hm hz w2 h1
        have e1 : gapL false ((l.drop i).take (u.pos - i)) = g := by rw [gap_take, ← hg]; omega
        have hd : ((l.drop i).take (u.pos - i)).drop g = (l.drop (i + g)).take (u.pos - (i + g)) := by rw [List.drop_take, List.drop_drop, Nat.sub_sub]
        refine Lexes.cons (t := v) (k := k) ?_ ?_ ?_
        · rw [e1, List.length_take, List.length_drop]; omega
        · rw [e1, hd]
          exact next_take hz (by omega) w1
        · rw [e1, hd, List.drop_take, List.drop_drop, Nat.sub_sub]
          exact hm
end Go.Cz.Fo
namespace Go.Cz.Vd
set_option linter.unusedVariables false
set_option linter.unusedSimpArgs false
open Go.Cz.Lx Go.Cz.Fo
open Go.Cz.Wn (datedB dayB)
/-- No number follows a name; p: the kind of what comes before. -/
def okK : Nat → List KTok → Bool
  | _, [] => true
  | p, t :: r => !(p == 1 && t.1 == 2) && okK t.1 r
theorem okK_any {p : Nat} : ∀ {l : List KTok}, okK 1 l = true → okK p l = true
  | [], _ => rfl
  | t :: r, h => by
    simp only [okK, Bool.and_eq_true] at h ⊢
    refine ⟨?_, h.2⟩
    have h1 := h.1
    revert h1
    cases p == 1 <;> simp
theorem okK_append {b : List KTok} (hb : okK 1 b = true) : ∀ {p : Nat} {a : List KTok}, okK p a = true → okK p (a ++ b) = true
  | p, [], _ => okK_any hb
  | p, t :: r, h => by
    rw [List.cons_append]
    simp only [okK, Bool.and_eq_true] at h ⊢
    exact ⟨h.1, okK_append hb h.2⟩
theorem okK_name (s : Bytes) {l : List KTok} (h : okK 1 l = true) : okK 1 (kName s :: l) = true := by simp [okK, kName, h]
theorem okK_sym (s : Bytes) {l : List KTok} (h : okK 4 l = true) : okK 1 (kSym s :: l) = true := by simp [okK, kSym, h]
theorem okK_par {b : Bool} {l : List KTok} (h : okK 1 l = true) : okK 1 (parK b l) = true := by
  cases b
  · exact h
  · refine okK_sym _ (okK_append ?_ (okK_any h))
    simp [okK, kSym]
theorem okK_join {w : Bytes} : ∀ {l : List (List KTok)}, (∀ x ∈ l, okK 1 x = true) → okK 1 (joinK (kName w) l) = true
  | [], _ => rfl
  | [a], h => h a (by simp)
  | a :: b :: r, h => by
    rw [joinK]
    exact okK_append (okK_name _ (okK_join fun x hx => h x (by simp [hx]))) (h a (by simp))
/-- In a formula no number follows a name. -/
theorem okK_toks (f : Fm) : okK 1 (toksF f) = true := by
  refine Fm.induct (P := fun f => okK 1 (toksF f) = true) ?_ f
  clear f
  intro f ih
  have hk : ∀ op, ∀ x ∈ toksKids op f.kids, okK 1 x = true := fun op x hx => by
    rw [toksKids_eq] at hx
    obtain ⟨k, h1, rfl⟩ := List.mem_map.1 hx
    exact okK_par (ih k h1)
  obtain ⟨op, name, m, n, ks⟩ := f
  simp only [Fm.kids] at hk
  rw [toksF]
  split
  · rfl
  split
  · rfl
  split
  · simp [okK, kName, kSym, kNum]
  split
  · exact okK_name _ (okK_join fun x hx => hk _ x (List.mem_of_mem_take hx))
  split
  · exact okK_join (hk _)
  · exact okK_join (hk _)
theorem from_count {t u : Tok} {C : List Tok} (h1 : t.kind = 1) (h2 : t.text = wFrom) (h3 : u.kind = 2) : ∀ {B : List Tok} {p : Nat}, okK p (B.map strip) = true → fromM (B ++ t :: u :: C) = B.length
  | [], p, _ => by
    simp only [List.nil_append, fromM, termB, h1, h2, h3]
    rfl
  | [b], p, h => by
    have e : termB (b :: t :: u :: C) = false := by simp [termB, h1]
    have e2 : termB (t :: u :: C) = true := by simp [termB, h1, h2, h3]
    simp only [List.cons_append, List.nil_append, fromM, e, e2]
    rfl
  | b :: c :: r, p, h => by
    rw [List.map_cons] at h
    simp only [okK, Bool.and_eq_true] at h
    have ih := from_count (C := C) h1 h2 h3 (B := c :: r) h.2
    have e : termB (b :: c :: (r ++ t :: u :: C)) = false := by
      have h4 := h.2
      rw [List.map_cons] at h4
      simp only [okK, Bool.and_eq_true, strip] at h4
      have h5 := h4.1
      simp only [termB]
      by_cases k1 : b.kind = 1
      · by_cases k2 : c.kind = 2
        · simp [k1, k2] at h5
        · simp [k2]
      · simp [k1]
    rw [List.cons_append, List.cons_append, fromM, e, if_neg (by simp)]
    rw [List.cons_append] at ih
    rw [ih]
    rfl
theorem next_len {l : Bytes} {i : Nat} {t : Tok} {k : Nat} (h : nextL l i = .ok (t, k)) (hk : t.kind = 1) : t.text.length = k := by
  obtain ⟨h1, h2, h3⟩ := next_name h hk
  have hw := whileN_le [3, 4, 5] (l.drop i)
  unfold nextL at h
  rw [if_pos h1] at h
  split at h
  · cases h
  · simp only [Except.ok.injEq, Prod.mk.injEq] at h
    rw [← h.2, h3, List.length_take]
    omega
/-- Behind a word. -/
theorem LexP.after {l : Bytes} {t : Tok} (hk : t.kind = 1) : ∀ {A B : List Tok} {i : Nat}, LexP l i (A ++ t :: B) → LexP l (t.pos + t.text.length) B
  | [], B, i, h => by
    cases h with
    | cons h1 h2 h3 => rw [nextL_pos h2, next_len h2 hk]; exact h3
  | a :: A, B, i, h => by
    cases h with
    | cons h1 h2 h3 => exact LexP.after hk h3
/-- The text of a formula, between a word and a token. -/
theorem sub_parse {l : Bytes} {A B C : List Tok} {t u : Tok} {f : Fm} (h : LexP l 0 (A ++ t :: (B ++ u :: C))) (h1 : l.length ≤ 20000) (h2 : B.length ≤ 5000) (hk : t.kind = 1) (hs : B.map strip = toksF f) (hw : Wr f) (hL : largeB f = false) :
    parseF ((l.take u.pos).drop (t.pos + t.text.length)) = (f, 0, 0) := by
  have h3 := LexP.mid (LexP.after hk h)
  rw [← List.drop_take] at h3
  obtain ⟨ts, h4, h5⟩ := h3.all (by rw [List.length_drop, List.length_take]; omega) (by rw [List.length_map]; exact h2)
  exact parse_toks h4 (h5.trans hs) hw hL
/-- Words with blanks between them. -/
theorem says_words : ∀ l : List (Bytes × List KTok), l ≠ [] → (∀ p ∈ l, Says p.1 p.2) → Says (joinB [32] (l.map Prod.fst)) (l.flatMap Prod.snd)
  | [], h, _ => absurd rfl h
  | [p], _, h => by simpa [joinB] using h p (by simp)
  | p :: q :: r, _, h => by
    have ih := says_words (q :: r) (by simp) fun x hx => h x (by simp [hx])
    intro rest ks hb hl
    have h1 := (ih rest ks hb hl).space
    have h2 := h p (by simp) _ _ (brk_space _) h1
    simp only [List.map_cons, joinB, List.flatMap_cons] at h2 ⊢
    simpa using h2
theorem says_name {s : Bytes} (h : nameB s = true) : Says s [kName s] := fun rest ks hb hl => Lexes.name h hb hl
theorem says_num {n : Int} (h0 : 0 ≤ n) (h1 : n ≤ 1000000) : Says (Lib.itoa n) [kNum n] := fun rest ks hb hl => by
  obtain ⟨N, rfl⟩ : ∃ N : Nat, n = N := ⟨n.toNat, (Int.toNat_of_nonneg h0).symm⟩
  have e : Lib.itoa (N : Int) = Lib.decDigits N := Lib.itoa_nonneg N
  have := Lexes.num (n := N) (by omega) hb hl
  simpa [kNum, e] using this
def pairsM (m : Me) : List (Bytes × List KTok) :=
  [(wKind m.kind, [kName (wKind m.kind)])] ++ ((if m.target = [] then [] else [(m.target, [kName m.target])]) ++ ([(m.id, [kName m.id]), (wOf, [kName wOf]), (m.auth, [kName m.auth])] ++
    ((if m.cond.op = 1 then [] else [(wIf, [kName wIf]), (textF Lib.itoa m.cond, toksF m.cond)]) ++
    ([(wFrom, [kName wFrom]), (Lib.itoa m.fr, [kNum m.fr])] ++ ((if 0 ≤ m.un then [(wUntil, [kName wUntil]), (Lib.itoa m.un, [kNum m.un])] else []) ++ (if 0 < m.wi then [(wWind, [kName wWind]), (Lib.itoa m.wi, [kNum m.wi])] else []))))))
def toksM (m : Me) : List KTok :=
  kName (wKind m.kind) :: ((if m.target = [] then [] else [kName m.target]) ++ (kName m.id :: kName wOf :: kName m.auth :: ((if m.cond.op = 1 then [] else kName wIf :: toksF m.cond) ++
    (kName wFrom :: kNum m.fr :: ((if 0 ≤ m.un then [kName wUntil, kNum m.un] else []) ++ ((if 0 < m.wi then [kName wWind, kNum m.wi] else []) ++ [kSym [59]]))))))
theorem pairs_words (m : Me) : (pairsM m).map Prod.fst = wordsM m := by
  unfold pairsM wordsM
  simp only [List.map_append, List.map_cons, List.map_nil]
  congr 1
  (repeat' split) <;> rfl
theorem pairs_toks (m : Me) : (pairsM m).flatMap Prod.snd ++ [kSym [59]] = toksM m := by
  unfold pairsM toksM
  (repeat' split) <;> simp
/-- What a measure with a text is. -/
structure WrM (m : Me) : Prop where
  large : largeB m.cond = false
  wr : Wr m.cond
  id : nameB m.id = true
  auth : nameB m.auth = true
  kind : (m.kind = 1 ∧ m.target = []) ∨ (m.kind = 2 ∧ nameB m.target = true ∧ m.target ≠ m.id) ∨ (m.kind = 3 ∧ nameB m.target = true ∧ m.target ≠ m.auth)
  fr : 0 ≤ m.fr ∧ m.fr ≤ 100000
  un : m.un = -1 ∨ (m.fr < m.un ∧ m.un ≤ 100000)
  wi : 0 ≤ m.wi ∧ m.wi ≤ 400
  wk : m.kind ≠ 1 → m.wi = 0
theorem wrM_parts {m : Me} (h : wrM m = true) : WrM m := by
  unfold wrM at h
  simp only [Bool.and_eq_true, decide_eq_true_eq] at h
  obtain ⟨h1, h2, h3⟩ := h
  have h4 : largeB m.cond = false ∧ Wr m.cond := by
    unfold textE at h1
    split at h1
    · simp at h1
    · rename_i h5
      simp only [not_or, Bool.not_eq_true, ne_eq, Decidable.not_not] at h5
      exact h5
  unfold namedM at h2
  simp only [Bool.and_eq_true] at h2
  obtain ⟨k1, k2, k3⟩ := h2
  unfold datedB dayB at h3
  simp only [Bool.and_eq_true, Bool.or_eq_true, decide_eq_true_eq, beq_iff_eq] at h3
  obtain ⟨d1, d2, d3, d4, d5⟩ := h3
  refine ⟨h4.1, h4.2, k1, k2, ?_, d1, by omega, ⟨d2, d3⟩, fun hk => by omega⟩
  split at k3
  · rename_i hk; exact .inl ⟨hk, by simpa using k3⟩
  · split at k3
    · rename_i hk
      simp only [Bool.and_eq_true, decide_eq_true_eq] at k3
      exact .inr (.inl ⟨hk, k3⟩)
    · split at k3
      · rename_i hk
        simp only [Bool.and_eq_true, decide_eq_true_eq] at k3
        exact .inr (.inr ⟨hk, k3⟩)
      · cases k3
theorem wr_parts_iff {m : Me} (h : WrM m) : wrM m = true := by
  unfold wrM textE
  rw [if_neg (by simp [h.large, h.wr])]
  simp only [decide_true, Bool.true_and, Bool.and_eq_true]
  constructor
  · unfold namedM
    rw [h.id, h.auth]
    rcases h.kind with ⟨k, t⟩ | ⟨k, t, n⟩ | ⟨k, t, n⟩
    · rw [if_pos k, t]; rfl
    · rw [if_neg (by omega), if_pos k, t]; simp [n]
    · rw [if_neg (by omega), if_neg (by omega), if_pos k, t]; simp [n]
  · have h1 := h.fr
    have h2 := h.un
    have h3 := h.wi
    have h4 := h.wk
    unfold datedB dayB
    simp only [Bool.and_eq_true, Bool.or_eq_true, decide_eq_true_eq, beq_iff_eq]
    refine ⟨h1, h3.1, h3.2, ?_, by omega⟩
    by_cases k : m.kind = 1
    · exact .inr k
    · exact .inl (by have := h4 k; omega)
theorem kind_name {m : Me} (h : WrM m) : nameB (wKind m.kind) = true := by
  unfold wKind
  rcases h.kind with ⟨k, -⟩ | ⟨k, -⟩ | ⟨k, -⟩
  · rw [if_pos k]; decide
  · rw [if_neg (by omega), if_pos k]; decide
  · rw [if_neg (by omega), if_neg (by omega), if_pos k]; decide
theorem lexes_say {m : Me} (h : WrM m) : Lexes (sayM m) (toksM m) := by
  have hs := says_words (pairsM m) (by unfold pairsM; simp) fun p hp => by
    have hfr := h.fr
    have hun := h.un
    have hwi := h.wi
    unfold pairsM at hp
    simp only [List.mem_append, List.mem_cons, List.not_mem_nil, or_false] at hp
    rcases hp with rfl | hp | (rfl | rfl | rfl) | hp | (rfl | rfl) | hp | hp
    · exact says_name (kind_name h)
    · split at hp
      · cases hp
      · rename_i ht
        obtain rfl : p = (m.target, [kName m.target]) := by simpa using hp
        rcases h.kind with ⟨-, t⟩ | ⟨-, t, -⟩ | ⟨-, t, -⟩
        · exact absurd t ht
        · exact says_name t
        · exact says_name t
    · exact says_name h.id
    · exact says_name (by decide)
    · exact says_name h.auth
    · split at hp
      · cases hp
      · simp only [List.mem_cons, List.not_mem_nil, or_false] at hp
        rcases hp with rfl | rfl
        · exact says_name (by decide)
        · exact Says.text _ h.wr
    · exact says_name (by decide)
    · exact says_num (by omega) (by omega)
    · split at hp
      · simp only [List.mem_cons, List.not_mem_nil, or_false] at hp
        rcases hp with rfl | rfl
        · exact says_name (by decide)
        · exact says_num (by omega) (by omega)
      · cases hp
    · split at hp
      · simp only [List.mem_cons, List.not_mem_nil, or_false] at hp
        rcases hp with rfl | rfl
        · exact says_name (by decide)
        · exact says_num (by omega) (by omega)
      · cases hp
  have h1 : Lexes [59] [kSym [59]] := Lexes.one (c := 59) (by decide) (.nil rfl)
  have h2 := hs [59] [kSym [59]] (fun c r e => by cases e; decide) h1
  rw [pairs_words, pairs_toks] at h2
  exact h2
theorem words_len : ∀ l : List Bytes, (joinB [32] l).length ≤ (l.map fun s => s.length + 1).sum
  | [] => by simp [joinB]
  | [a] => by simp [joinB]
  | a :: b :: r => by
    have := words_len (b :: r)
    simp only [joinB, List.length_append, List.map_cons, List.sum_cons, List.length_cons, List.length_nil] at this ⊢
    omega
theorem say_len {m : Me} (h : WrM m) : (sayM m).length ≤ 13000 ∧ (toksM m).length ≤ 2000 := by
  have h1 := text_len m.cond h.wr
  have h2 := (largeB_false.1 h.large).1
  have h3 := name_le (kind_name h)
  have h4 := name_le h.id
  have h5 := name_le h.auth
  have h6 : m.target.length ≤ 24 := by
    rcases h.kind with ⟨-, t⟩ | ⟨-, t, -⟩ | ⟨-, t, -⟩
    · rw [t]; simp
    · exact name_le t
    · exact name_le t
  have hfr := h.fr
  have hun := h.un
  have hwi := h.wi
  have h7 := Lib.itoa_length_le m.fr (by omega) (by omega)
  have h8 := Lib.itoa_length_le m.un (by omega) (by omega)
  have h9 := Lib.itoa_length_le m.wi (by omega) (by omega)
  constructor
  · have h10 := words_len (wordsM m)
    unfold sayM
    rw [List.length_append]
    have h11 : ((wordsM m).map fun s => s.length + 1).sum ≤ 12900 := by
      unfold wordsM
      simp only [List.map_append, List.sum_append, List.map_cons, List.map_nil, List.sum_cons, List.sum_nil, wOf, wFrom, List.length_cons, List.length_nil]
      (repeat' split) <;> simp only [List.map_cons, List.map_nil, List.sum_cons, List.sum_nil, wIf, wUntil, wWind, List.length_cons, List.length_nil] <;> omega
    simp only [List.length_cons, List.length_nil]
    omega
  · unfold toksM
    simp only [List.length_append, List.length_cons, List.length_nil]
    (repeat' split) <;> simp only [List.length_cons, List.length_nil] <;> omega
theorem strip_cons {ts : List Tok} {k : KTok} {ks : List KTok} (h : ts.map strip = k :: ks) : ∃ t r, ts = t :: r ∧ strip t = k ∧ r.map strip = ks := by
  cases ts with
  | nil => simp at h
  | cons t r => simp only [List.map_cons, List.cons.injEq] at h; exact ⟨t, r, rfl, h.1, h.2⟩
theorem strip_append {ts : List Tok} {a b : List KTok} (h : ts.map strip = a ++ b) : ∃ x y, ts = x ++ y ∧ x.map strip = a ∧ y.map strip = b := by
  refine ⟨ts.take a.length, ts.drop a.length, (List.take_append_drop _ _).symm, ?_, ?_⟩
  · rw [List.map_take, h, List.take_left']; rfl
  · rw [List.map_drop, h, List.drop_left']; rfl
theorem strip_name {t : Tok} {s : Bytes} (h : strip t = kName s) : t.kind = 1 ∧ t.text = s := by simp only [strip, kName, Prod.mk.injEq] at h; exact ⟨h.1, h.2.2⟩
theorem strip_sym {t : Tok} {s : Bytes} (h : strip t = kSym s) : t.kind = 4 ∧ t.text = s := by simp only [strip, kSym, Prod.mk.injEq] at h; exact ⟨h.1, h.2.2⟩
theorem strip_num {t : Tok} {n : Int} (h : strip t = kNum n) (h0 : 0 ≤ n) : t.kind = 2 ∧ (t.num : Int) = n := by simp only [strip, kNum, Prod.mk.injEq] at h; exact ⟨h.1, by omega⟩
theorem take_name {fin : Int} {t : Tok} {s : Bytes} {r : List Tok} (h : strip t = kName s) : takeM fin 1 s (t :: r) = .ok (t, r) := by
  obtain ⟨h1, h2⟩ := strip_name h
  simp only [takeM]
  rw [if_neg (by simp [h1, h2])]
theorem name_ok {fin : Int} {t : Tok} {s no : Bytes} {r : List Tok} (h : strip t = kName s) (hn : s ≠ no) : nameM fin no (t :: r) = .ok (s, r) := by
  obtain ⟨h1, h2⟩ := strip_name h
  unfold nameM
  simp only [takeM]
  rw [if_neg (by simp [h1])]
  simp only
  rw [if_neg (by rw [h2]; exact hn), h2]
theorem num_ok {fin least most : Int} {t : Tok} {n : Int} {r : List Tok} (h : strip t = kNum n) (h0 : 0 ≤ n) (hl : least ≤ n) (hm : n ≤ most) : numM fin least most (t :: r) = .ok (n, r) := by
  obtain ⟨h1, h2⟩ := strip_num h h0
  unfold numM
  simp only [takeM]
  rw [if_neg (by simp [h1])]
  simp only
  rw [if_neg (by omega), h2]
theorem close_ok {fin : Int} {t : Tok} (h : strip t = kSym [59]) : closeM fin [t] = .ok () := by
  obtain ⟨h1, h2⟩ := strip_sym h
  unfold closeM
  simp only [takeM]
  rw [if_neg (by simp [h1, h2])]
theorem sees_name {t : Tok} {s w : Bytes} {r : List Tok} (h : strip t = kName s) : seesM w (t :: r) = decide (s = w) := by
  obtain ⟨h1, h2⟩ := strip_name h
  simp [seesM, h1, h2]
theorem sees_sym {t : Tok} {s w : Bytes} {r : List Tok} (h : strip t = kSym s) : seesM w (t :: r) = false := by
  obtain ⟨h1, h2⟩ := strip_sym h
  simp [seesM, h1]
/-- The numbers of a measure's text are read. -/
theorem dates_ok {fin : Int} {m : Me} (h : WrM m) {m0 : Me} (hk : m0.kind = m.kind) {ts : List Tok}
    (hs : ts.map strip = kName wFrom :: kNum m.fr :: ((if 0 ≤ m.un then [kName wUntil, kNum m.un] else []) ++ ((if 0 < m.wi then [kName wWind, kNum m.wi] else []) ++ [kSym [59]]))) :
    datesM fin m0 ts = .ok { m0 with fr := m.fr, un := m.un, wi := m.wi } := by
  have hfr := h.fr
  have hun := h.un
  have hwi := h.wi
  have hwk := h.wk
  obtain ⟨t1, r1, rfl, e1, hs⟩ := strip_cons hs
  obtain ⟨t2, r2, rfl, e2, hs⟩ := strip_cons hs
  obtain ⟨x, y, rfl, e3, hs⟩ := strip_append hs
  obtain ⟨x2, y2, rfl, e4, hs⟩ := strip_append hs
  obtain ⟨t5, r5, rfl, e5, hs⟩ := strip_cons hs
  obtain rfl : r5 = [] := by simpa using hs
  have hclose := close_ok (fin := fin) e5
  have hwind : windM fin m0.kind (x2 ++ [t5]) = .ok (m.wi, [t5]) := by
    unfold windM
    by_cases hw : 0 < m.wi
    · rw [if_pos hw] at e4
      obtain ⟨a, ra, rfl, ea, e4⟩ := strip_cons e4
      obtain ⟨b, rb, rfl, eb, e4⟩ := strip_cons e4
      obtain rfl : rb = [] := by simpa using e4
      have hk1 : m.kind = 1 := Decidable.byContradiction fun hx => by have := hwk hx; omega
      rw [if_pos ⟨hk.trans hk1, by rw [List.cons_append, sees_name ea]; simp⟩]
      exact num_ok eb (by omega) (by omega) (by omega)
    · rw [if_neg hw] at e4
      obtain rfl : x2 = [] := by simpa using e4
      rw [if_neg (by rintro ⟨-, hx⟩; rw [List.nil_append, sees_sym e5] at hx; cases hx), show m.wi = 0 by omega]
      rfl
  have huntil : untilM fin m.fr (x ++ (x2 ++ [t5])) = .ok (m.un, x2 ++ [t5]) := by
    unfold untilM
    by_cases hu : 0 ≤ m.un
    · rw [if_pos hu] at e3
      obtain ⟨a, ra, rfl, ea, e3⟩ := strip_cons e3
      obtain ⟨b, rb, rfl, eb, e3⟩ := strip_cons e3
      obtain rfl : rb = [] := by simpa using e3
      rw [if_pos (by rw [List.cons_append, sees_name ea]; simp)]
      exact num_ok eb (by omega) (by omega) (by omega)
    · rw [if_neg hu] at e3
      obtain rfl : x = [] := by simpa using e3
      rw [if_neg, show m.un = -1 by omega]
      · rfl
      · rw [List.nil_append]
        intro hx
        by_cases hw : 0 < m.wi
        · rw [if_pos hw] at e4
          obtain ⟨a, ra, rfl, ea, e4⟩ := strip_cons e4
          rw [List.cons_append, sees_name ea] at hx
          revert hx; decide
        · rw [if_neg hw] at e4
          obtain rfl : x2 = [] := by simpa using e4
          rw [List.nil_append, sees_sym e5] at hx
          cases hx
  unfold datesM
  rw [take_name e1]
  simp only
  rw [num_ok e2 (by omega) (by omega) (by omega)]
  simp only
  rw [huntil]
  simp only
  rw [hwind]
  simp only
  rw [hclose]
/-- The names of a measure's text are read. -/
theorem ids_ok {fin : Int} {m : Me} (h : WrM m) {m0 : Me} {a b : Bytes} (ha : m.id ≠ a) (hb : m.auth ≠ b) {ts : List Tok} {R : List KTok} (hs : ts.map strip = kName m.id :: kName wOf :: kName m.auth :: R) :
    ∃ A x r, ts = A ++ x :: r ∧ r.map strip = R ∧ idsM fin a b m0 ts = .ok ({ m0 with id := m.id, auth := m.auth }, r) := by
  obtain ⟨t1, r1, rfl, e1, hs⟩ := strip_cons hs
  obtain ⟨t2, r2, rfl, e2, hs⟩ := strip_cons hs
  obtain ⟨t3, r3, rfl, e3, hs⟩ := strip_cons hs
  refine ⟨[t1, t2], t3, r3, rfl, hs, ?_⟩
  unfold idsM
  rw [name_ok e1 ha]
  simp only
  rw [take_name e2]
  simp only
  rw [name_ok e3 hb]
theorem head_ok {fin : Int} {m : Me} (h : WrM m) {ts : List Tok} {R : List KTok} (hs : ts.map strip = (if m.target = [] then [] else [kName m.target]) ++ kName m.id :: kName wOf :: kName m.auth :: R) :
    ∃ A x r, ts = A ++ x :: r ∧ r.map strip = R ∧ targetM fin m.kind ts = .ok (⟨m.id, m.auth, m.kind, m.target, trueF, 0, -1, 0⟩, r) := by
  have hi : m.id ≠ [] := name_some h.id
  have hau : m.auth ≠ [] := name_some h.auth
  unfold targetM
  rcases h.kind with ⟨k, t⟩ | ⟨k, t, n⟩ | ⟨k, t, n⟩
  · rw [if_pos t, List.nil_append] at hs
    rw [if_pos k]
    obtain ⟨A, x, r, h1, h2, h3⟩ := ids_ok (fin := fin) h (m0 := startM 1) hi hau hs
    refine ⟨A, x, r, h1, h2, ?_⟩
    rw [h3, k, t]
    rfl
  · have ht := name_some t
    rw [if_neg ht] at hs
    obtain ⟨t1, r1, rfl, e1, hs⟩ := strip_cons (ks := kName m.id :: kName wOf :: kName m.auth :: R) hs
    rw [if_neg (by omega), name_ok e1 ht]
    simp only
    rw [if_pos k, if_neg (by omega)]
    obtain ⟨A, x, r, h1, h2, h3⟩ := ids_ok (fin := fin) h (m0 := { startM m.kind with target := m.target }) (Ne.symm n) hau hs
    refine ⟨t1 :: A, x, r, by rw [h1]; rfl, h2, ?_⟩
    rw [h3]
    rfl
  · have ht := name_some t
    rw [if_neg ht] at hs
    obtain ⟨t1, r1, rfl, e1, hs⟩ := strip_cons (ks := kName m.id :: kName wOf :: kName m.auth :: R) hs
    rw [if_neg (by omega), name_ok e1 ht]
    simp only
    rw [if_neg (by omega), if_pos k]
    obtain ⟨A, x, r, h1, h2, h3⟩ := ids_ok (fin := fin) h (m0 := { startM m.kind with target := m.target }) hi (Ne.symm n) hs
    refine ⟨t1 :: A, x, r, by rw [h1]; rfl, h2, ?_⟩
    rw [h3]
    rfl
theorem kind_back {m : Me} (h : WrM m) : kindM (wKind m.kind) = m.kind ∧ m.kind ≠ 0 := by
  rcases h.kind with ⟨k, -⟩ | ⟨k, -⟩ | ⟨k, -⟩ <;> rw [k] <;> decide
theorem cond_ok {l : Bytes} {b n : Nat} {ts r : List Tok} {f : Fm} (hn : fromM ts = n) (hd : ts.drop n = r) (hp : parseF ((l.take (endM l r)).drop b) = (f, 0, 0)) : condM l b ts = .ok (f, r) := by
  subst hn
  subst hd
  unfold condM
  rw [hp]
  simp [condE]
/-- The text of a measure is read as the measure. -/
theorem measure_back {m : Me} (h : WrM m) : parseM (sayM m) = (m, 0, 0) := by
  obtain ⟨L1, L2⟩ := say_len h
  obtain ⟨ts, hl, hs⟩ := (lexes_say h).all (by omega) (by omega)
  have hP := (lexAll_p (l := sayM m) (by rw [hl])).1
  rw [hl] at hP
  simp only at hP
  have hlen : ts.length ≤ 5000 := by
    have := congrArg List.length hs
    rw [List.length_map] at this
    omega
  obtain ⟨kb, k0⟩ := kind_back h
  unfold toksM at hs
  obtain ⟨t0, r0, rfl, e0, hs⟩ := strip_cons hs
  obtain ⟨n1, n2⟩ := strip_name e0
  obtain ⟨A, x, r, rfl, hs2, hh⟩ := head_ok (fin := ((sayM m).length : Int)) h hs
  have hbody : bodyM (sayM m) ⟨m.id, m.auth, m.kind, m.target, trueF, 0, -1, 0⟩ r = .ok m := by
    unfold bodyM ifM
    by_cases hop : m.cond.op = 1
    · rw [if_pos hop, List.nil_append] at hs2
      obtain ⟨t1, r1, rfl, e1, hs3⟩ := strip_cons hs2
      rw [if_neg (by rw [sees_name e1]; decide)]
      simp only
      rw [dates_ok h (m0 := ⟨m.id, m.auth, m.kind, m.target, trueF, 0, -1, 0⟩) rfl hs2]
      have : m.cond = trueF := by
        rcases h.wr.forms with ⟨s, a, n, e, -⟩ | e | e | ⟨k, e⟩ | ⟨a, b, r, e⟩ | ⟨a, b, r, e⟩
        all_goals rw [e] at hop ⊢
        all_goals first | rfl | simp [Fm.op] at hop
      obtain ⟨a1, a2, a3, a4, a5, a6, a7, a8⟩ := m
      simp only at this
      rw [this]
    · rw [if_neg hop] at hs2
      obtain ⟨t1, r1, rfl, e1, hs3⟩ := strip_cons (ks := toksF m.cond ++ kName wFrom :: kNum m.fr :: ((if 0 ≤ m.un then [kName wUntil, kNum m.un] else []) ++ ((if 0 < m.wi then [kName wWind, kNum m.wi] else []) ++ [kSym [59]]))) hs2
      obtain ⟨B, y, rfl, eB, hs4⟩ := strip_append hs3
      obtain ⟨u, r2, rfl, eu, hs5⟩ := strip_cons hs4
      obtain ⟨v, r3, rfl, ev, hs6⟩ := strip_cons hs5
      obtain ⟨u1, u2⟩ := strip_name eu
      have v1 := (strip_num ev h.fr.1).1
      obtain ⟨w1, w2⟩ := strip_name e1
      have hn : fromM (B ++ u :: v :: r3) = B.length := from_count (p := 1) u1 u2 v1 (by rw [eB]; exact okK_toks _)
      rw [if_pos (by rw [sees_name e1]; decide)]
      have hP2 : LexP (sayM m) 0 ((t0 :: (A ++ [x])) ++ t1 :: (B ++ u :: (v :: r3))) := by simpa using hP
      have hB : B.length ≤ 5000 := by simp at hlen; omega
      have hp := sub_parse hP2 (by omega) hB w1 eB h.wr h.large
      have e2 : t1.text.length = 2 := by rw [w2]; rfl
      rw [e2] at hp
      have hc : condM (sayM m) (endM (sayM m) (t1 :: (B ++ u :: v :: r3)) + 2) (t1 :: (B ++ u :: v :: r3)).tail = .ok (m.cond, u :: v :: r3) := by
        exact cond_ok (r := u :: v :: r3) hn (by rw [List.tail_cons, List.drop_left]) hp
      rw [hc]
      simp only
      rw [dates_ok h (m0 := ⟨m.id, m.auth, m.kind, m.target, m.cond, 0, -1, 0⟩) rfl hs4]
  unfold parseM
  rw [hl]
  simp only [ne_eq, not_true_eq_false, if_false]
  unfold measureM
  have ht : takeM ((sayM m).length : Int) 1 [] (t0 :: (A ++ x :: r)) = .ok (t0, A ++ x :: r) := by
    simp only [takeM]
    rw [if_neg (by simp [n1])]
  rw [ht]
  simp only
  rw [n2, kb, if_neg k0, hh]
  simp only
  rw [hbody]
theorem text_of {m : Me} (h : (textM m).2 = 0) : wrM m = true ∧ (textM m).1 = sayM m := by
  unfold textM at h ⊢
  split at h
  · rename_i hw; rw [if_pos hw]; exact ⟨hw, rfl⟩
  · simp at h
/-- Parse reads back what Text writes. -/
theorem text_parse {m : Me} (h : (textM m).2 = 0) : parseM (textM m).1 = (m, 0, 0) := by
  obtain ⟨h1, h2⟩ := text_of h
  rw [h2]
  exact measure_back (wrM_parts h1)
theorem text_same {a b : Me} (ha : (textM a).2 = 0) (hb : (textM b).2 = 0) : (textM a).1 = (textM b).1 ↔ a = b := by
  refine ⟨fun h => ?_, fun h => by rw [h]⟩
  have h1 := text_parse ha
  rw [h, text_parse hb] at h1
  exact (Prod.mk.inj h1).1.symm
end Go.Cz.Vd
namespace Go.Cz.Vd
set_option linter.unusedVariables false
set_option linter.unusedSimpArgs false
open Go.Cz.Lx Go.Cz.Fo
open Go.Cz.Wn (datedB dayB)
section
variable {fin : Int} {B : Nat} {ts r : List Tok} {e : Er}
theorem take_inv {k : Nat} {s : Bytes} {t : Tok} (h : takeM fin k s ts = .ok (t, r)) : ts = t :: r ∧ t.kind = k ∧ (s ≠ [] → t.text = s) := by
  cases ts with
  | nil => simp [takeM] at h
  | cons u q =>
    simp only [takeM] at h
    split at h
    · cases h
    · rename_i hc
      simp only [Except.ok.injEq, Prod.mk.injEq] at h
      obtain ⟨rfl, rfl⟩ := h
      simp only [not_or, ne_eq, Decidable.not_not, not_and] at hc
      exact ⟨rfl, hc.1, hc.2⟩
theorem name_inv {no s : Bytes} (h : nameM fin no ts = .ok (s, r)) : ∃ t, ts = t :: r ∧ t.kind = 1 ∧ t.text = s ∧ s ≠ no := by
  unfold nameM at h
  split at h
  · cases h
  · rename_i t q h1
    obtain ⟨rfl, h2, -⟩ := take_inv h1
    split at h
    · cases h
    · rename_i h3
      simp only [Except.ok.injEq, Prod.mk.injEq] at h
      obtain ⟨rfl, rfl⟩ := h
      exact ⟨t, rfl, h2, rfl, h3⟩
theorem num_inv {least most n : Int} (h : numM fin least most ts = .ok (n, r)) : ∃ t, ts = t :: r ∧ n = (t.num : Int) ∧ least ≤ n ∧ n ≤ most := by
  unfold numM at h
  split at h
  · cases h
  · rename_i t q h1
    obtain ⟨rfl, h2, -⟩ := take_inv h1
    split at h
    · cases h
    · rename_i h3
      simp only [Except.ok.injEq, Prod.mk.injEq] at h
      obtain ⟨rfl, rfl⟩ := h
      exact ⟨t, rfl, rfl, by omega, by omega⟩
/-- An offset in the text, or -1. -/
def BadE (B : Nat) (e : Er) : Prop := e.1 ≠ 0 ∧ -1 ≤ e.2 ∧ e.2 ≤ (B : Int)
theorem take_bad {k : Nat} {s : Bytes} (ht : InT B ts) (h : takeM (B : Int) k s ts = .error e) : BadE B e := by
  cases ts with
  | nil =>
    simp only [takeM, Except.error.injEq] at h
    subst h
    exact ⟨by simp, by simp only; omega, by simp⟩
  | cons u q =>
    simp only [takeM] at h
    have := ht.head
    split at h
    · simp only [Except.error.injEq] at h
      subst h
      exact ⟨by simp, by simp only; omega, by simp only; omega⟩
    · cases h
theorem name_bad {no : Bytes} (ht : InT B ts) (h : nameM (B : Int) no ts = .error e) : BadE B e := by
  unfold nameM at h
  split at h
  · rename_i e2 h1
    simp only [Except.error.injEq] at h
    exact h ▸ take_bad ht h1
  · rename_i t q h1
    obtain ⟨rfl, h2, -⟩ := take_inv h1
    have := ht.head
    split at h
    · simp only [Except.error.injEq] at h
      subst h
      exact ⟨by simp, by simp only; omega, by simp only; omega⟩
    · cases h
theorem num_bad {least most : Int} (ht : InT B ts) (h : numM (B : Int) least most ts = .error e) : BadE B e := by
  unfold numM at h
  split at h
  · rename_i e2 h1
    simp only [Except.error.injEq] at h
    exact h ▸ take_bad ht h1
  · rename_i t q h1
    obtain ⟨rfl, h2, -⟩ := take_inv h1
    have := ht.head
    split at h
    · simp only [Except.error.injEq] at h
      subst h
      exact ⟨by simp, by simp only; omega, by simp only; omega⟩
    · cases h
theorem tail_in (ht : InT B ts) : InT B ts.tail := fun t h => ht t (List.mem_of_mem_tail h)
theorem tail_ok (ht : NameOk ts) : NameOk ts.tail := fun t h => ht t (List.mem_of_mem_tail h)
theorem from_le : ∀ ts : List Tok, fromM ts ≤ ts.length
  | [] => Nat.le_refl _
  | t :: r => by
    unfold fromM
    have := from_le r
    split
    · omega
    · simp; omega
end
/-- What is read behind the names has numbers that are as they have to be. -/
theorem dates_inv {fin : Int} {m0 m : Me} {ts : List Tok} (h : datesM fin m0 ts = .ok m) : ∃ fr un wi : Int, m = { m0 with fr := fr, un := un, wi := wi } ∧ (0 ≤ fr ∧ fr ≤ 100000) ∧ (un = -1 ∨ (fr < un ∧ un ≤ 100000)) ∧ (0 ≤ wi ∧ wi ≤ 400) ∧ (m0.kind ≠ 1 → wi = 0) := by
  unfold datesM at h
  split at h
  · cases h
  split at h
  · cases h
  rename_i fr r2 h2
  split at h
  · cases h
  rename_i un r3 h3
  split at h
  · cases h
  rename_i wi r4 h4
  split at h
  · cases h
  simp only [Except.ok.injEq] at h
  obtain ⟨t, -, -, l1, l2⟩ := num_inv h2
  refine ⟨fr, un, wi, h.symm, ⟨l1, l2⟩, ?_, ?_⟩
  · unfold untilM at h3
    split at h3
    · obtain ⟨t, -, -, l3, l4⟩ := num_inv h3
      exact .inr ⟨by omega, l4⟩
    · simp only [Except.ok.injEq, Prod.mk.injEq] at h3
      exact .inl h3.1.symm
  · unfold windM at h4
    split at h4
    · rename_i hk
      obtain ⟨t, -, -, l3, l4⟩ := num_inv h4
      exact ⟨⟨l3, l4⟩, fun h => absurd hk.1 h⟩
    · simp only [Except.ok.injEq, Prod.mk.injEq] at h4
      exact ⟨by omega, fun _ => h4.1.symm⟩
theorem cond_inv {l : Bytes} {b : Nat} {ts r : List Tok} {f : Fm} (h : condM l b ts = .ok (f, r)) : textE f = 0 ∧ r = ts.drop (fromM ts) := by
  unfold condM at h
  split at h
  · cases h
  · rename_i hc
    simp only [Except.ok.injEq, Prod.mk.injEq] at h
    obtain ⟨rfl, rfl⟩ := h
    refine ⟨?_, rfl⟩
    obtain ⟨p, hp⟩ : ∃ p, p = parseF ((l.take (endM l (ts.drop (fromM ts)))).drop b) := ⟨_, rfl⟩
    rw [← hp] at hc ⊢
    have h0 : p.2.1 = 0 := by
      unfold condE at hc
      split at hc
      · cases hc
      split at hc
      · assumption
      split at hc <;> cases hc
    exact parse_writes (l := (l.take (endM l (ts.drop (fromM ts)))).drop b) (at' := p.2.2) (by rw [← hp, ← h0])
theorem ids_inv {fin : Int} {a b : Bytes} {m0 m : Me} {ts r : List Tok} (hn : NameOk ts) (h : idsM fin a b m0 ts = .ok (m, r)) : ∃ x y : Bytes, m = { m0 with id := x, auth := y } ∧ nameB x = true ∧ nameB y = true ∧ x ≠ a ∧ y ≠ b ∧ NameOk r ∧ ∃ A, ts = A ++ r := by
  unfold idsM at h
  split at h
  · cases h
  rename_i x r1 h1
  split at h
  · cases h
  rename_i t r2 h2
  split at h
  · cases h
  rename_i y r3 h3
  simp only [Except.ok.injEq, Prod.mk.injEq] at h
  obtain ⟨rfl, rfl⟩ := h
  obtain ⟨u, rfl, k1, k2, k3⟩ := name_inv h1
  obtain ⟨rfl, -, -⟩ := take_inv h2
  obtain ⟨v, rfl, k4, k5, k6⟩ := name_inv h3
  exact ⟨x, y, rfl, by rw [← k2]; exact hn u (by simp) k1, by rw [← k5]; exact hn v (by simp) k4, k3, k6, fun q hq => hn q (by simp [hq]), [u, t, v], rfl⟩
theorem kindM_le (s : Bytes) : kindM s = 0 ∨ kindM s = 1 ∨ kindM s = 2 ∨ kindM s = 3 := by unfold kindM; (repeat' split) <;> simp
theorem target_inv {fin k : Int} {m : Me} {ts r : List Tok} (hk : k = 1 ∨ k = 2 ∨ k = 3) (hn : NameOk ts) (h : targetM fin k ts = .ok (m, r)) :
    m.kind = k ∧ m.cond = trueF ∧ nameB m.id = true ∧ nameB m.auth = true ∧ ((k = 1 ∧ m.target = []) ∨ (k = 2 ∧ nameB m.target = true ∧ m.target ≠ m.id) ∨ (k = 3 ∧ nameB m.target = true ∧ m.target ≠ m.auth)) ∧ NameOk r ∧ ∃ A, ts = A ++ r := by
  unfold targetM at h
  split at h
  · rename_i k1
    obtain ⟨x, y, rfl, h1, h2, h3, h4, h5, h6⟩ := ids_inv hn h
    exact ⟨k1.symm, rfl, h1, h2, .inl ⟨k1, rfl⟩, h5, h6⟩
  · rename_i k1
    split at h
    · cases h
    rename_i t q h0
    obtain ⟨u, rfl, g1, g2, g3⟩ := name_inv h0
    have hq : NameOk q := fun v hv => hn v (by simp [hv])
    obtain ⟨x, y, rfl, h1, h2, h3, h4, h5, A, h6⟩ := ids_inv hq h
    have ht : nameB t = true := by rw [← g2]; exact hn u (by simp) g1
    refine ⟨rfl, rfl, h1, h2, ?_, h5, u :: A, by rw [h6]; rfl⟩
    rcases hk with rfl | rfl | rfl
    · exact absurd rfl k1
    · exact .inr (.inl ⟨rfl, ht, by simpa using Ne.symm h3⟩)
    · exact .inr (.inr ⟨rfl, ht, by simpa using Ne.symm h4⟩)
/-- What is read has a text. -/
theorem measure_wr {l : Bytes} {ts : List Tok} {m : Me} (hn : NameOk ts) (h : measureM l ts = .ok m) : wrM m = true := by
  unfold measureM at h
  split at h
  · cases h
  rename_i t r h0
  obtain ⟨rfl, k1, -⟩ := take_inv h0
  have hr : NameOk r := fun v hv => hn v (by simp [hv])
  split at h
  · cases h
  rename_i hk
  split at h
  · cases h
  rename_i m1 r1 h1
  have hk3 : kindM t.text = 1 ∨ kindM t.text = 2 ∨ kindM t.text = 3 := by have := kindM_le t.text; omega
  obtain ⟨g1, g2, g3, g4, g5, g6, -⟩ := target_inv hk3 hr h1
  unfold bodyM at h
  split at h
  · cases h
  rename_i f r2 h2
  have hf : textE f = 0 := by
    unfold ifM at h2
    split at h2
    · exact (cond_inv h2).1
    · simp only [Except.ok.injEq, Prod.mk.injEq] at h2
      rw [← h2.1]
      decide
  obtain ⟨fr, un, wi, rfl, d1, d2, d3, d4⟩ := dates_inv h
  have hw : largeB f = false ∧ Wr f := by
    unfold textE at hf
    split at hf
    · simp at hf
    · rename_i h5
      simp only [not_or, Bool.not_eq_true, ne_eq, Decidable.not_not] at h5
      exact h5
  exact wr_parts_iff ⟨hw.1, hw.2, g3, g4, by simpa [g1] using g5, d1, d2, d3, d4⟩
/-- Where an error stands. -/
theorem dates_bad {B : Nat} {m0 : Me} {ts : List Tok} {e : Er} (ht : InT B ts) (h : datesM (B : Int) m0 ts = .error e) : BadE B e := by
  unfold datesM at h
  split at h
  · rename_i e1 h1
    simp only [Except.error.injEq] at h
    exact h ▸ take_bad ht h1
  rename_i t r1 h1
  obtain ⟨rfl, -, -⟩ := take_inv h1
  have ht := ht.tail
  split at h
  · rename_i e1 h1
    simp only [Except.error.injEq] at h
    exact h ▸ num_bad ht h1
  rename_i fr r2 h2
  obtain ⟨t2, rfl, -⟩ := num_inv h2
  have ht := ht.tail
  split at h
  · rename_i e1 h1
    simp only [Except.error.injEq] at h
    subst h
    unfold untilM at h1
    split at h1
    · exact num_bad (tail_in ht) h1
    · cases h1
  rename_i un r3 h3
  have ht3 : InT B r3 := by
    unfold untilM at h3
    split at h3
    · obtain ⟨t3, e3, -⟩ := num_inv h3
      have := tail_in ht
      rw [e3] at this
      exact this.tail
    · simp only [Except.ok.injEq, Prod.mk.injEq] at h3
      exact h3.2 ▸ ht
  split at h
  · rename_i e1 h1
    simp only [Except.error.injEq] at h
    subst h
    unfold windM at h1
    split at h1
    · exact num_bad (tail_in ht3) h1
    · cases h1
  rename_i wi r4 h4
  have ht4 : InT B r4 := by
    unfold windM at h4
    split at h4
    · obtain ⟨t3, e3, -⟩ := num_inv h4
      have := tail_in ht3
      rw [e3] at this
      exact this.tail
    · simp only [Except.ok.injEq, Prod.mk.injEq] at h4
      exact h4.2 ▸ ht3
  split at h
  · rename_i e1 h1
    simp only [Except.error.injEq] at h
    subst h
    unfold closeM at h1
    split at h1
    · rename_i e2 h2
      simp only [Except.error.injEq] at h1
      exact h1 ▸ take_bad ht4 h2
    · cases h1
    · rename_i a t r h2
      obtain ⟨rfl, -, -⟩ := take_inv h2
      simp only [Except.error.injEq] at h1
      subst h1
      have := ht4.tail.head
      exact ⟨by simp, by simp only; omega, by simp only; omega⟩
  · cases h
theorem LexP.word_end {l : Bytes} {t : Tok} (hk : t.kind = 1) : ∀ {ts : List Tok} {i : Nat}, LexP l i ts → t ∈ ts → t.pos + t.text.length ≤ l.length
  | [], i, h, hm => by simp at hm
  | a :: r, i, h, hm => by
    cases h with
    | cons h1 h2 h3 =>
      rcases List.mem_cons.1 hm with rfl | hm
      · rw [nextL_pos h2, next_len h2 hk]
        exact (nextL_width h2 h1).2
      · exact LexP.word_end hk h3 hm
theorem cond_bad {l : Bytes} {b : Nat} {ts : List Tok} {e : Er} (ht : InT l.length ts) (hb : b ≤ l.length) (h : condM l b ts = .error e) : BadE l.length e := by
  have hE : endM l (ts.drop (fromM ts)) ≤ l.length := by
    rcases hd : ts.drop (fromM ts) with _ | ⟨t, r⟩
    · exact Nat.le_refl _
    · exact ht t (List.mem_of_mem_drop (i := fromM ts) (by rw [hd]; simp))
  unfold condM at h
  split at h
  · rename_i e1 hc
    simp only [Except.error.injEq] at h
    subst h
    have hp := parse_pos ((l.take (endM l (ts.drop (fromM ts)))).drop b)
    rw [List.length_drop, List.length_take] at hp
    obtain ⟨E, hEe⟩ : ∃ E, E = endM l (ts.drop (fromM ts)) := ⟨_, rfl⟩
    rw [← hEe] at hc hp hE
    obtain ⟨p, hpe⟩ : ∃ p, p = parseF ((l.take E).drop b) := ⟨_, rfl⟩
    rw [← hpe] at hc hp
    unfold condE at hc
    split at hc
    · simp only [Option.some.injEq] at hc
      subst hc
      exact ⟨by simp, by simp only; omega, by simp only; omega⟩
    split at hc
    · cases hc
    rename_i h0
    split at hc
    · simp only [Option.some.injEq] at hc
      subst hc
      exact ⟨h0, hp.1, by simp only; omega⟩
    · simp only [Option.some.injEq] at hc
      subst hc
      exact ⟨h0, by simp only; omega, by simp only; omega⟩
  · cases h
theorem ids_bad {B : Nat} {a b : Bytes} {m0 : Me} {ts : List Tok} {e : Er} (ht : InT B ts) (h : idsM (B : Int) a b m0 ts = .error e) : BadE B e := by
  unfold idsM at h
  split at h
  · rename_i e1 h1
    simp only [Except.error.injEq] at h
    exact h ▸ name_bad ht h1
  rename_i x r1 h1
  obtain ⟨u, rfl, -⟩ := name_inv h1
  have ht := ht.tail
  split at h
  · rename_i e1 h1
    simp only [Except.error.injEq] at h
    exact h ▸ take_bad ht h1
  rename_i t r2 h2
  obtain ⟨rfl, -⟩ := take_inv h2
  have ht := ht.tail
  split at h
  · rename_i e1 h1
    simp only [Except.error.injEq] at h
    exact h ▸ name_bad ht h1
  · cases h
theorem target_bad {B : Nat} {k : Int} {ts : List Tok} {e : Er} (ht : InT B ts) (h : targetM (B : Int) k ts = .error e) : BadE B e := by
  unfold targetM at h
  split at h
  · exact ids_bad ht h
  · split at h
    · rename_i e1 h1
      simp only [Except.error.injEq] at h
      exact h ▸ name_bad ht h1
    · rename_i x r1 h1
      obtain ⟨u, rfl, -⟩ := name_inv h1
      exact ids_bad ht.tail h
theorem measure_bad {l : Bytes} {ts : List Tok} {e : Er} (hP : LexP l 0 ts) (hn : NameOk ts) (ht : InT l.length ts) (h : measureM l ts = .error e) : BadE l.length e := by
  unfold measureM at h
  split at h
  · rename_i e1 h1
    simp only [Except.error.injEq] at h
    exact h ▸ take_bad ht h1
  rename_i t r h0
  obtain ⟨rfl, k1, -⟩ := take_inv h0
  have hr : NameOk r := fun v hv => hn v (by simp [hv])
  have hr2 := ht.tail
  split at h
  · simp only [Except.error.injEq] at h
    subst h
    have := ht.head
    exact ⟨by simp, by simp only; omega, by simp only; omega⟩
  rename_i hk
  have hk3 : kindM t.text = 1 ∨ kindM t.text = 2 ∨ kindM t.text = 3 := by have := kindM_le t.text; omega
  split at h
  · rename_i e1 h1
    simp only [Except.error.injEq] at h
    exact h ▸ target_bad hr2 h1
  rename_i m1 r1 h1
  obtain ⟨g1, g2, g3, g4, g5, g6, A, rfl⟩ := target_inv hk3 hr h1
  have hr3 : InT l.length r1 := fun v hv => hr2 v (by simp [hv])
  unfold bodyM at h
  split at h
  · rename_i e1 h2
    simp only [Except.error.injEq] at h
    subst h
    unfold ifM at h2
    split at h2
    · rename_i hs
      cases r1 with
      | nil => simp [seesM] at hs
      | cons v r2 =>
        simp only [seesM, Bool.and_eq_true, decide_eq_true_eq] at hs
        have hw := LexP.word_end hs.1 hP (by simp)
        rw [hs.2] at hw
        exact cond_bad hr3.tail hw h2
    · cases h2
  · rename_i f r2 h2
    refine dates_bad (ts := r2) ?_ h
    unfold ifM at h2
    split at h2
    · rw [(cond_inv h2).2]
      exact fun v hv => tail_in hr3 v (List.mem_of_mem_drop hv)
    · simp only [Except.ok.injEq, Prod.mk.injEq] at h2
      exact h2.2 ▸ hr3
/-- The law of what is parsed. -/
theorem parses_law (l : Bytes) : ((parseM l).2.1 ≠ 0 → (parseM l).1 = zeroM ∧ -1 ≤ (parseM l).2.2 ∧ (parseM l).2.2 ≤ (l.length : Int)) ∧
    ((parseM l).2.1 = 0 → (parseM l).2.2 = 0 ∧ (textM (parseM l).1).2 = 0 ∧ parseM (textM (parseM l).1).1 = ((parseM l).1, 0, 0)) := by
  have hpos := lexAll_pos l
  by_cases h0 : (lexAll l).2.1 = 0
  · have hP := lexAll_p h0
    have hN := lexAll_names l
    rcases hm : measureM l (lexAll l).1 with e | m
    · have hb := measure_bad hP.1 hN hpos.1 hm
      have he : parseM l = (zeroM, e.1, e.2) := by
        unfold parseM
        rw [if_neg (by simpa using h0), hm]
      rw [he]
      exact ⟨fun _ => ⟨rfl, hb.2.1, hb.2.2⟩, fun h => absurd h hb.1⟩
    · have he : parseM l = (m, 0, 0) := by
        unfold parseM
        rw [if_neg (by simpa using h0), hm]
      rw [he]
      have hw := measure_wr hN hm
      have ht : (textM m).2 = 0 := by unfold textM; rw [if_pos hw]
      exact ⟨fun h => absurd rfl h, fun _ => ⟨rfl, ht, text_parse ht⟩⟩
  · have he : parseM l = (zeroM, (lexAll l).2.1, (lexAll l).2.2) := by
      unfold parseM
      rw [if_pos h0]
    rw [he]
    exact ⟨fun _ => ⟨rfl, hpos.2.1, hpos.2.2⟩, fun h => absurd h h0⟩
end Go.Cz.Vd
namespace Go.Cz.Lx
/-- A token as it is written. -/
def srcT (t : Tok) : List UInt8 := if t.kind = 3 then 34 :: (t.text ++ [34]) else t.text
theorem idxQ_get : ∀ {x : List UInt8} {n : Nat}, idxQ x = some n → x[n]? = some 34 ∨ x[n]? = some 10
  | [], n, h => by simp [idxQ] at h
  | c :: r, n, h => by
    unfold idxQ at h
    split at h
    · rename_i hc
      simp only [Option.some.injEq] at h
      subst h
      rcases hc with rfl | rfl <;> simp
    · rcases h1 : idxQ r with _ | m
      · rw [h1] at h; simp at h
      · rw [h1] at h
        simp only [Option.map_some, Option.some.injEq] at h
        subst h
        simpa using idxQ_get h1
theorem next_src {x : List UInt8} {t : Tok} {k : Nat} (h : nextL x 0 = .ok (t, k)) : srcT t = x.take k ∧ atL x 0 ≠ 1 ∧ atL x 0 ≠ 2 := by
  unfold nextL at h
  rw [List.drop_zero] at h
  by_cases h3 : atL x 0 = 3
  · rw [if_pos h3] at h
    split at h
    · cases h
    · simp only [Except.ok.injEq, Prod.mk.injEq] at h
      obtain ⟨rfl, rfl⟩ := h
      exact ⟨rfl, by omega, by omega⟩
  rw [if_neg h3] at h
  by_cases h4 : atL x 0 = 4
  · rw [if_pos h4] at h
    split at h
    · cases h
    · simp only [Except.ok.injEq, Prod.mk.injEq] at h
      obtain ⟨rfl, rfl⟩ := h
      exact ⟨rfl, by omega, by omega⟩
  rw [if_neg h4] at h
  by_cases h6 : atL x 0 = 6
  · rw [if_pos h6] at h
    cases x with
    | nil => simp [atL] at h6
    | cons c y =>
      have hc : c = 34 := all_bytes (p := fun c => cls c = 6 → c = 34) (by decide +kernel) c h6
      subst hc
      have hd : ((34 : UInt8) :: y).drop (0 + 1) = y := rfl
      rw [hd] at h
      rcases hq : idxQ y with _ | n
      · rw [hq] at h; simp at h
      · rw [hq] at h
        simp only at h
        split at h
        · cases h
        rename_i h10
        split at h
        · cases h
        simp only [Except.ok.injEq, Prod.mk.injEq] at h
        obtain ⟨rfl, rfl⟩ := h
        refine ⟨?_, by omega, by omega⟩
        have hg := (idxQ_get hq).resolve_right h10
        show (34 : UInt8) :: (y.take n ++ [34]) = ((34 : UInt8) :: y).take (n + 2)
        rw [List.take_succ_cons, List.take_add_one, hg]
        rfl
  rw [if_neg h6] at h
  split at h
  · rename_i h7
    simp only [Except.ok.injEq, Prod.mk.injEq] at h
    obtain ⟨rfl, rfl⟩ := h
    exact ⟨rfl, by omega, by omega⟩
  · split at h
    · rename_i h8
      simp only [Except.ok.injEq, Prod.mk.injEq] at h
      obtain ⟨rfl, rfl⟩ := h
      exact ⟨rfl, by omega, by omega⟩
    · cases h
/-- Tokens with a line feed behind each. -/
def linesT (ts : List Tok) : List UInt8 := ts.flatMap fun t => srcT t ++ [10]
end Go.Cz.Lx
namespace Go.Cz.Fo
open Go.Cz.Lx
theorem Lexes.line {l : Bytes} {ks : List KTok} (h : Lexes l ks) : Lexes (10 :: l) ks := by
  have hg : gapL false (10 :: l) = gapL false l + 1 := by simp only [gapL]; rw [if_pos (by decide)]
  cases h with
  | nil h => exact .nil (by rw [hg, h]; rfl)
  | cons h1 h2 h3 => exact .cons (by rw [hg, List.length_cons]; omega) (by rw [hg, List.drop_succ_cons]; exact h2) (by rw [hg, List.drop_succ_cons]; exact h3)
theorem Lexes.src {x rest : Bytes} {t : Tok} {k : Nat} {ks : List KTok} (h : nextL x 0 = .ok (t, k)) (h1 : 1 ≤ k) (h2 : k ≤ x.length) (hl : Lexes rest ks) : Lexes (srcT t ++ 10 :: rest) (strip t :: ks) := by
  obtain ⟨hs, n1, n2⟩ := next_src h
  have ht := next_take h (Nat.le_refl k) h1
  rw [hs]
  obtain ⟨c, y, hy⟩ : ∃ c y, x.take k = c :: y := by
    cases he : x.take k with
    | nil =>
      have := congrArg List.length he
      rw [List.length_take, List.length_nil] at this
      omega
    | cons c y => exact ⟨c, y, rfl⟩
  have hlen : (c :: y).length = k := by rw [← hy, List.length_take]; omega
  have ha : atL x 0 = cls c := by
    have e : atL (x.take k) 0 = atL x 0 := by rw [atL_take, if_pos (by omega)]
    rw [← e, hy]
    rfl
  rw [hy] at ht ⊢
  have hn : nextL (c :: (y ++ 10 :: rest)) 0 = .ok (t, k) := (next_line c y rest).trans ht
  refine Lexes.head (c := c) (r := y ++ 10 :: rest) (t := t) (k := k) (by rw [← ha]; exact n1) (by rw [← ha]; exact n2) hn ?_
  have hd : (c :: (y ++ 10 :: rest)).drop k = 10 :: rest := by
    rw [show c :: (y ++ 10 :: rest) = (c :: y) ++ 10 :: rest from rfl, ← hlen, List.drop_left]
  rw [hd]
  exact hl.line
theorem LexP.lines {l : Bytes} {i : Nat} {ts : List Tok} (h : LexP l i ts) : Lexes (linesT ts) (ts.map strip) ∧ (linesT ts).length ≤ 2 * (l.length - i) := by
  induction h with
  | nil h => exact ⟨.nil rfl, by simp [linesT]⟩
  | @cons i t k ts h1 h2 h3 ih =>
    obtain ⟨w1, w2⟩ := nextL_width h2 h1
    have h4 := nextL_at l (gapE l i)
    rw [h2] at h4
    rcases hz : nextL (l.drop (gapE l i)) 0 with e | ⟨u, k'⟩
    · rw [hz] at h4; simp at h4
    · rw [hz] at h4
      simp only [Except.ok.injEq, Prod.mk.injEq] at h4
      obtain ⟨rfl, rfl⟩ := h4
      have e : linesT (⟨u.kind, gapE l i, u.num, u.text⟩ :: ts) = srcT u ++ 10 :: linesT ts := by simp [linesT, srcT]
      rw [e]
      have hs := (next_src hz).1
      have hge : i ≤ gapE l i := by unfold gapE; omega
      refine ⟨Lexes.src hz w1 (by rw [List.length_drop]; omega) ih.1, ?_⟩
      rw [List.length_append, List.length_cons, hs, List.length_take, List.length_drop]
      have := ih.2
      omega
/-! Texts with the same tokens are read alike. -/
abbrev SimL (ts us : List Tok) : Prop := ts.map strip = us.map strip
theorem SimL.cons {t : Tok} {ts us : List Tok} (h : SimL (t :: ts) us) : ∃ u r, us = u :: r ∧ t.kind = u.kind ∧ t.num = u.num ∧ t.text = u.text ∧ SimL ts r := by
  cases us with
  | nil => simp [SimL] at h
  | cons u r =>
    simp only [SimL, List.map_cons, List.cons.injEq, strip, Prod.mk.injEq] at h
    exact ⟨u, r, rfl, h.1.1, h.1.2.1, h.1.2.2, h.2⟩
theorem SimL.nil {us : List Tok} (h : SimL [] us) : us = [] := by
  cases us with
  | nil => rfl
  | cons u r => simp [SimL] at h
theorem SimL.len {ts us : List Tok} (h : SimL ts us) : ts.length = us.length := by
  have := congrArg List.length h
  simpa using this
theorem SimL.symm {ts us : List Tok} (h : SimL ts us) : SimL us ts := Eq.symm h
theorem SimL.drop {ts us : List Tok} (h : SimL ts us) (n : Nat) : SimL (ts.drop n) (us.drop n) := by
  show (ts.drop n).map strip = (us.drop n).map strip
  rw [List.map_drop, List.map_drop, h]
theorem SimL.tail {ts us : List Tok} (h : SimL ts us) : SimL ts.tail us.tail := by
  have := h.drop 1
  simpa using this
/-- Two readers' answers are alike. -/
def SimE {α : Type} (x y : Except (Nat × Int) (α × List Tok)) : Prop := match x, y with
  | .ok (f, r), .ok (g, q) => f = g ∧ SimL r q
  | .error e, .error e' => e.1 = e'.1
  | _, _ => False
def SimP (p q : List Tok → Res) : Prop := ∀ ts us, SimL ts us → SimE (p ts) (q us)
theorem more_sim {w : Bytes} {p q : List Tok → Res} (h : SimP p q) : ∀ (k : Nat) (ts us : List Tok), SimL ts us → SimE (moreF w p k ts) (moreF w q k us)
  | 0, ts, us, hs => ⟨rfl, hs⟩
  | k + 1, [], us, hs => by rw [hs.nil]; exact ⟨rfl, rfl⟩
  | k + 1, t :: ts, us, hs => by
    obtain ⟨u, r, rfl, h1, h2, h3, h4⟩ := hs.cons
    simp only [moreF]
    rw [h1, h3]
    by_cases hc : u.kind = 1 ∧ u.text = w
    · rw [if_pos hc, if_pos hc]
      have h5 := h ts r h4
      rcases hp : p ts with e | ⟨f, r1⟩
      · rcases hq : q r with e' | ⟨g, r2⟩
        · rw [hp, hq] at h5; exact h5
        · rw [hp, hq] at h5; exact h5.elim
      · rcases hq : q r with e' | ⟨g, r2⟩
        · rw [hp, hq] at h5; exact h5.elim
        · rw [hp, hq] at h5
          obtain ⟨rfl, h6⟩ := h5
          have h7 := more_sim (w := w) h k r1 r2 h6
          simp only
          rcases hm : moreF w p k r1 with e | ⟨fs, r3⟩
          · rcases hn : moreF w q k r2 with e' | ⟨gs, r4⟩
            · rw [hm, hn] at h7; exact h7
            · rw [hm, hn] at h7; exact h7.elim
          · rcases hn : moreF w q k r2 with e' | ⟨gs, r4⟩
            · rw [hm, hn] at h7; exact h7.elim
            · rw [hm, hn] at h7
              obtain ⟨rfl, h8⟩ := h7
              exact ⟨rfl, h8⟩
    · rw [if_neg hc, if_neg hc]
      exact ⟨rfl, hs⟩
theorem parts_sim {op : Int} {w : Bytes} {p q : List Tok → Res} (h : SimP p q) : SimP (partsF op w p) (partsF op w q) := fun ts us hs => by
  unfold partsF
  have h5 := h ts us hs
  rcases hp : p ts with e | ⟨f, r1⟩
  · rcases hq : q us with e' | ⟨g, r2⟩
    · rw [hp, hq] at h5; exact h5
    · rw [hp, hq] at h5; exact h5.elim
  · rcases hq : q us with e' | ⟨g, r2⟩
    · rw [hp, hq] at h5; exact h5.elim
    · rw [hp, hq] at h5
      obtain ⟨rfl, h6⟩ := h5
      have h7 := more_sim (w := w) h (r1.length + 1) r1 r2 h6
      simp only
      rw [← h6.len]
      rcases hm : moreF w p (r1.length + 1) r1 with e | ⟨fs, r3⟩
      · rcases hn : moreF w q (r1.length + 1) r2 with e' | ⟨gs, r4⟩
        · rw [hm, hn] at h7; exact h7
        · rw [hm, hn] at h7; exact h7.elim
      · rcases hn : moreF w q (r1.length + 1) r2 with e' | ⟨gs, r4⟩
        · rw [hm, hn] at h7; exact h7.elim
        · rw [hm, hn] at h7
          obtain ⟨rfl, h8⟩ := h7
          exact ⟨rfl, h8⟩
theorem test_sim {fin fin' : Int} {s : Bytes} : SimP (testF fin s) (testF fin' s) := fun ts us hs => by
  cases ts with
  | nil => rw [hs.nil]; exact rfl
  | cons t ts =>
    obtain ⟨u, r, rfl, h1, h2, h3, h4⟩ := hs.cons
    simp only [testF]
    rw [h1, h3]
    by_cases hc : u.kind ≠ 4 ∨ symI u.text = 0
    · rw [if_pos hc, if_pos hc]; exact rfl
    · rw [if_neg hc, if_neg hc]
      cases ts with
      | nil => rw [h4.nil]; exact rfl
      | cons t2 ts =>
        obtain ⟨u2, r2, rfl, k1, k2, k3, k4⟩ := h4.cons
        simp only
        rw [k1, k2]
        by_cases hc : u2.kind ≠ 2
        · rw [if_pos hc, if_pos hc]; exact rfl
        · rw [if_neg hc, if_neg hc]
          by_cases hc : 1000000 < u2.num
          · rw [if_pos hc, if_pos hc]; exact rfl
          · rw [if_neg hc, if_neg hc]; exact ⟨rfl, k4⟩
theorem one_sim {fin fin' : Int} : ∀ n : Nat, SimP (oneF fin n) (oneF fin' n)
  | 0, ts, us, hs => rfl
  | n + 1, [], us, hs => by rw [hs.nil]; exact rfl
  | n + 1, t :: ts, us, hs => by
    obtain ⟨u, r, rfl, h1, h2, h3, h4⟩ := hs.cons
    simp only [oneF]
    rw [h1, h3]
    by_cases hc : u.kind = 1 ∧ u.text = wNot
    · rw [if_pos hc, if_pos hc]
      have h5 := one_sim (fin := fin) (fin' := fin') n ts r h4
      rcases hp : oneF fin n ts with e | ⟨f, r1⟩
      · rcases hq : oneF fin' n r with e' | ⟨g, r2⟩
        · rw [hp, hq] at h5; exact h5
        · rw [hp, hq] at h5; exact h5.elim
      · rcases hq : oneF fin' n r with e' | ⟨g, r2⟩
        · rw [hp, hq] at h5; exact h5.elim
        · rw [hp, hq] at h5
          obtain ⟨rfl, h6⟩ := h5
          exact ⟨rfl, h6⟩
    rw [if_neg hc, if_neg hc]
    by_cases hc : u.kind = 1 ∧ u.text = wTrue
    · rw [if_pos hc, if_pos hc]; exact ⟨rfl, h4⟩
    rw [if_neg hc, if_neg hc]
    by_cases hc : u.kind = 1 ∧ u.text = wFalse
    · rw [if_pos hc, if_pos hc]; exact ⟨rfl, h4⟩
    rw [if_neg hc, if_neg hc]
    by_cases hc : u.kind = 4 ∧ u.text = [40]
    · rw [if_pos hc, if_pos hc]
      have h5 := parts_sim (op := 6) (w := wOr) (parts_sim (op := 5) (w := wAnd) (one_sim (fin := fin) (fin' := fin') n)) ts r h4
      rcases hp : partsF 6 wOr (partsF 5 wAnd (oneF fin n)) ts with e | ⟨f, r1⟩
      · rcases hq : partsF 6 wOr (partsF 5 wAnd (oneF fin' n)) r with e' | ⟨g, r2⟩
        · rw [hp, hq] at h5; exact h5
        · rw [hp, hq] at h5; exact h5.elim
      · rcases hq : partsF 6 wOr (partsF 5 wAnd (oneF fin' n)) r with e' | ⟨g, r2⟩
        · rw [hp, hq] at h5; exact h5.elim
        · rw [hp, hq] at h5
          obtain ⟨rfl, h6⟩ := h5
          cases r1 with
          | nil => rw [h6.nil]; exact rfl
          | cons v r1 =>
            obtain ⟨v2, r3, rfl, k1, k2, k3, k4⟩ := h6.cons
            simp only
            rw [k1, k3]
            by_cases hc : v2.kind = 4 ∧ v2.text = [41]
            · rw [if_pos hc, if_pos hc]; exact ⟨rfl, k4⟩
            · rw [if_neg hc, if_neg hc]; exact rfl
    rw [if_neg hc, if_neg hc]
    by_cases hc : u.kind ≠ 1 ∨ u.text = [] ∨ keyB u.text = true
    · rw [if_pos hc, if_pos hc]; exact rfl
    · rw [if_neg hc, if_neg hc]
      exact test_sim ts r h4
theorem parse_sim {x y : Bytes} {ts us : List Tok} (hx : lexAll x = (ts, 0, 0)) (hy : lexAll y = (us, 0, 0)) (hs : SimL ts us) : (parseF x).1 = (parseF y).1 ∧ (parseF x).2.1 = (parseF y).2.1 := by
  have h5 := parts_sim (op := 6) (w := wOr) (parts_sim (op := 5) (w := wAnd) (one_sim (fin := x.length) (fin' := y.length) (ts.length + 1))) ts us hs
  unfold parseF eitherF
  rw [hx, hy]
  simp only [ne_eq, not_true_eq_false, if_false]
  rw [← hs.len]
  rcases hp : partsF 6 wOr (partsF 5 wAnd (oneF x.length (ts.length + 1))) ts with e | ⟨f, r1⟩
  · rcases hq : partsF 6 wOr (partsF 5 wAnd (oneF y.length (ts.length + 1))) us with e' | ⟨g, r2⟩
    · rw [hp, hq] at h5; exact ⟨rfl, h5⟩
    · rw [hp, hq] at h5; exact h5.elim
  · rcases hq : partsF 6 wOr (partsF 5 wAnd (oneF y.length (ts.length + 1))) us with e' | ⟨g, r2⟩
    · rw [hp, hq] at h5; exact h5.elim
    · rw [hp, hq] at h5
      obtain ⟨rfl, h6⟩ := h5
      cases r1 with
      | nil =>
        rw [h6.nil]
        exact ⟨rfl, rfl⟩
      | cons v r1 =>
        obtain ⟨v2, r3, rfl, k1, k2, k3, k4⟩ := h6.cons
        exact ⟨rfl, rfl⟩
end Go.Cz.Fo
namespace Go.Cz.Vd
set_option linter.unusedVariables false
set_option linter.unusedSimpArgs false
open Go.Cz.Lx Go.Cz.Fo
section
variable {fin fin' : Int} {ts us : List Tok}
theorem take_sim {k : Nat} {s : Bytes} (h : SimL ts us) : (∃ t r u q, takeM fin k s ts = .ok (t, r) ∧ takeM fin' k s us = .ok (u, q) ∧ ts = t :: r ∧ us = u :: q ∧ t.kind = u.kind ∧ t.num = u.num ∧ t.text = u.text ∧ SimL r q) ∨
    (∃ e e', takeM fin k s ts = .error e ∧ takeM fin' k s us = .error e' ∧ e.1 = e'.1) := by
  cases ts with
  | nil => rw [h.nil]; exact .inr ⟨_, _, rfl, rfl, rfl⟩
  | cons t r =>
    obtain ⟨u, q, rfl, h1, h2, h3, h4⟩ := h.cons
    simp only [takeM]
    rw [h1, h3]
    by_cases hc : u.kind ≠ k ∨ (s ≠ [] ∧ u.text ≠ s)
    · rw [if_pos hc, if_pos hc]; exact .inr ⟨_, _, rfl, rfl, rfl⟩
    · rw [if_neg hc, if_neg hc]; exact .inl ⟨t, r, u, q, rfl, rfl, rfl, rfl, h1, h2, h3, h4⟩
theorem name_sim {no : Bytes} (h : SimL ts us) : SimE (nameM fin no ts) (nameM fin' no us) := by
  unfold nameM
  rcases take_sim (fin := fin) (fin' := fin') (k := 1) (s := []) h with ⟨t, r, u, q, e1, e2, -, -, h1, h2, h3, h4⟩ | ⟨e, e', e1, e2, h1⟩
  · rw [e1, e2]
    simp only
    rw [h3]
    by_cases hc : u.text = no
    · rw [if_pos hc, if_pos hc]; exact rfl
    · rw [if_neg hc, if_neg hc]; exact ⟨rfl, h4⟩
  · rw [e1, e2]; exact h1
theorem num_sim {a b : Int} (h : SimL ts us) : SimE (numM fin a b ts) (numM fin' a b us) := by
  unfold numM
  rcases take_sim (fin := fin) (fin' := fin') (k := 2) (s := []) h with ⟨t, r, u, q, e1, e2, -, -, h1, h2, h3, h4⟩ | ⟨e, e', e1, e2, h1⟩
  · rw [e1, e2]
    simp only
    rw [h2]
    by_cases hc : (u.num : Int) < a ∨ b < (u.num : Int)
    · rw [if_pos hc, if_pos hc]; exact rfl
    · rw [if_neg hc, if_neg hc]; exact ⟨rfl, h4⟩
  · rw [e1, e2]; exact h1
theorem sees_sim {w : Bytes} (h : SimL ts us) : seesM w ts = seesM w us := by
  cases ts with
  | nil => rw [h.nil]
  | cons t r =>
    obtain ⟨u, q, rfl, h1, h2, h3, h4⟩ := h.cons
    simp only [seesM]
    rw [h1, h3]
theorem term_sim (h : SimL ts us) : termB ts = termB us := by
  cases ts with
  | nil => rw [h.nil]
  | cons t r =>
    obtain ⟨u, q, rfl, h1, h2, h3, h4⟩ := h.cons
    cases r with
    | nil => rw [h4.nil]; rfl
    | cons t2 r2 =>
      obtain ⟨u2, q2, rfl, k1, k2, k3, k4⟩ := h4.cons
      simp only [termB]
      rw [h1, h3, k1]
theorem from_sim : ∀ {ts us : List Tok}, SimL ts us → fromM ts = fromM us
  | [], us, h => by rw [h.nil]
  | t :: r, us, h => by
    obtain ⟨u, q, rfl, h1, h2, h3, h4⟩ := h.cons
    unfold fromM
    rw [term_sim h, from_sim h4]
/-- An answer of one of two readers. -/
def SimM {α : Type} (x y : Except Er α) : Prop := match x, y with
  | .ok f, .ok g => f = g
  | .error e, .error e' => e.1 = e'.1
  | _, _ => False
theorem close_sim (h : SimL ts us) : SimM (closeM fin ts) (closeM fin' us) := by
  unfold closeM
  rcases take_sim (fin := fin) (fin' := fin') (k := 4) (s := [59]) h with ⟨t, r, u, q, e1, e2, -, -, h1, h2, h3, h4⟩ | ⟨e, e', e1, e2, h1⟩
  · rw [e1, e2]
    cases r with
    | nil => rw [h4.nil]; exact rfl
    | cons v r =>
      obtain ⟨v2, r2, rfl, -⟩ := h4.cons
      exact rfl
  · rw [e1, e2]; exact h1
theorem until_sim {fr : Int} (h : SimL ts us) : SimE (untilM fin fr ts) (untilM fin' fr us) := by
  unfold untilM
  rw [sees_sim h]
  split
  · exact num_sim h.tail
  · exact ⟨rfl, h⟩
theorem wind_sim {k : Int} (h : SimL ts us) : SimE (windM fin k ts) (windM fin' k us) := by
  unfold windM
  rw [sees_sim h]
  split
  · exact num_sim h.tail
  · exact ⟨rfl, h⟩
theorem simE_cases {α : Type} {x y : Except Er (α × List Tok)} (h : SimE x y) : (∃ f r q, x = .ok (f, r) ∧ y = .ok (f, q) ∧ SimL r q) ∨ (∃ e e', x = .error e ∧ y = .error e' ∧ e.1 = e'.1) := by
  rcases x with e | ⟨f, r⟩
  · rcases y with e' | ⟨g, q⟩
    · exact .inr ⟨e, e', rfl, rfl, h⟩
    · exact h.elim
  · rcases y with e' | ⟨g, q⟩
    · exact h.elim
    · obtain ⟨rfl, h2⟩ := h
      exact .inl ⟨f, r, q, rfl, rfl, h2⟩
theorem dates_sim {m : Me} (h : SimL ts us) : SimM (datesM fin m ts) (datesM fin' m us) := by
  unfold datesM
  rcases take_sim (fin := fin) (fin' := fin') (k := 1) (s := wFrom) h with ⟨t, r, u, q, e1, e2, -, -, -, -, -, h4⟩ | ⟨e, e', e1, e2, h1⟩
  rotate_left
  · rw [e1, e2]; exact h1
  rw [e1, e2]
  simp only
  rcases simE_cases (num_sim (fin := fin) (fin' := fin') (a := 0) (b := 100000) h4) with ⟨f, r2, q2, e1, e2, h5⟩ | ⟨e, e', e1, e2, h1⟩
  rotate_left
  · rw [e1, e2]; exact h1
  rw [e1, e2]
  simp only
  rcases simE_cases (until_sim (fin := fin) (fin' := fin') (fr := f) h5) with ⟨un, r3, q3, e1, e2, h6⟩ | ⟨e, e', e1, e2, h1⟩
  rotate_left
  · rw [e1, e2]; exact h1
  rw [e1, e2]
  simp only
  rcases simE_cases (wind_sim (fin := fin) (fin' := fin') (k := m.kind) h6) with ⟨wi, r4, q4, e1, e2, h7⟩ | ⟨e, e', e1, e2, h1⟩
  rotate_left
  · rw [e1, e2]; exact h1
  rw [e1, e2]
  simp only
  have h8 := close_sim (fin := fin) (fin' := fin') h7
  rcases hx : closeM fin r4 with e | _
  · rcases hy : closeM fin' q4 with e' | _
    · rw [hx, hy] at h8; exact h8
    · rw [hx, hy] at h8; exact h8.elim
  · rcases hy : closeM fin' q4 with e' | _
    · rw [hx, hy] at h8; exact h8.elim
    · exact rfl
theorem ids_sim {a b : Bytes} {m : Me} (h : SimL ts us) : SimE (idsM fin a b m ts) (idsM fin' a b m us) := by
  unfold idsM
  rcases simE_cases (name_sim (fin := fin) (fin' := fin') (no := a) h) with ⟨x, r2, q2, e1, e2, h5⟩ | ⟨e, e', e1, e2, h1⟩
  rotate_left
  · rw [e1, e2]; exact h1
  rw [e1, e2]
  simp only
  rcases take_sim (fin := fin) (fin' := fin') (k := 1) (s := wOf) h5 with ⟨t, r, u, q, e1, e2, -, -, -, -, -, h4⟩ | ⟨e, e', e1, e2, h1⟩
  rotate_left
  · rw [e1, e2]; exact h1
  rw [e1, e2]
  simp only
  rcases simE_cases (name_sim (fin := fin) (fin' := fin') (no := b) h4) with ⟨y, r2, q2, e1, e2, h5⟩ | ⟨e, e', e1, e2, h1⟩
  rotate_left
  · rw [e1, e2]; exact h1
  rw [e1, e2]
  exact ⟨rfl, h5⟩
theorem target_sim {k : Int} (h : SimL ts us) : SimE (targetM fin k ts) (targetM fin' k us) := by
  unfold targetM
  by_cases hk : k = 1
  · rw [if_pos hk, if_pos hk]; exact ids_sim h
  rw [if_neg hk, if_neg hk]
  rcases simE_cases (name_sim (fin := fin) (fin' := fin') (no := []) h) with ⟨x, r2, q2, e1, e2, h5⟩ | ⟨e, e', e1, e2, h1⟩
  rotate_left
  · rw [e1, e2]; exact h1
  rw [e1, e2]
  exact ids_sim h5
end
/-- The text of a condition has the tokens that stand there. -/
theorem cond_lex {l : Bytes} {b : Nat} {ts : List Tok} (h : LexP l b ts) (h1 : l.length ≤ 20000) (h2 : ts.length ≤ 5000) :
    ∃ us, lexAll ((l.take (endM l (ts.drop (fromM ts)))).drop b) = (us, 0, 0) ∧ us.map strip = (ts.take (fromM ts)).map strip := by
  have hle := from_le ts
  rcases hd : ts.drop (fromM ts) with _ | ⟨t, r⟩
  · have hall : ts.take (fromM ts) = ts := List.take_of_length_le (by
      have := congrArg List.length hd
      rw [List.length_drop, List.length_nil] at this
      omega)
    have hr := LexP.rest h
    rw [hall]
    simp only [endM]
    rw [List.take_length]
    exact hr.all (by rw [List.length_drop]; omega) (by rw [List.length_map]; exact h2)
  · have hts : ts = ts.take (fromM ts) ++ t :: r := by rw [← hd, List.take_append_drop]
    obtain ⟨C, hC⟩ : ∃ C, C = ts.take (fromM ts) := ⟨_, rfl⟩
    rw [← hC] at hts ⊢
    rw [hts] at h
    have hm := LexP.mid h
    rw [← List.drop_take] at hm
    have hl : C.length ≤ 5000 := by rw [hC, List.length_take]; omega
    exact hm.all (by rw [List.length_drop, List.length_take]; omega) (by rw [List.length_map]; exact hl)
theorem cond_sim {l l' : Bytes} {b b' : Nat} {ts us : List Tok} (h : SimL ts us) (hl : LexP l b ts) (hl' : LexP l' b' us) (h1 : l.length ≤ 20000) (h1' : l'.length ≤ 20000) (h2 : ts.length ≤ 5000) : SimE (condM l b ts) (condM l' b' us) := by
  obtain ⟨x, x1, x2⟩ := cond_lex hl h1 h2
  obtain ⟨y, y1, y2⟩ := cond_lex hl' h1' (by rw [← h.len]; exact h2)
  have hf := from_sim h
  have hxy : SimL x y := by
    show x.map strip = y.map strip
    rw [x2, y2, hf, List.map_take, List.map_take, h]
  obtain ⟨p1, p2⟩ := parse_sim x1 y1 hxy
  unfold condM
  rw [← hf]
  rw [← hf] at p1 p2
  rw [← h.len]
  obtain ⟨p, hp⟩ : ∃ p, p = parseF ((l.take (endM l (ts.drop (fromM ts)))).drop b) := ⟨_, rfl⟩
  obtain ⟨q, hq⟩ : ∃ q, q = parseF ((l'.take (endM l' (us.drop (fromM ts)))).drop b') := ⟨_, rfl⟩
  rw [← hp, ← hq] at p1 p2
  rw [← hp, ← hq]
  unfold condE
  rw [p2]
  by_cases c1 : q.2.1 = 6 ∧ decide (fromM ts < ts.length) = true
  · rw [if_pos c1, if_pos c1]; exact rfl
  rw [if_neg c1, if_neg c1]
  by_cases c2 : q.2.1 = 0
  · rw [if_pos c2, if_pos c2]
    exact ⟨p1, h.drop _⟩
  rw [if_neg c2, if_neg c2]
  by_cases c3 : p.2.2 < 0 <;> by_cases c4 : q.2.2 < 0
  · rw [if_pos c3, if_pos c4]; exact rfl
  · rw [if_pos c3, if_neg c4]; exact rfl
  · rw [if_neg c3, if_pos c4]; exact rfl
  · rw [if_neg c3, if_neg c4]; exact rfl
theorem measure_sim {l l' : Bytes} {ts us : List Tok} (h : SimL ts us) (hn : NameOk ts) (hn' : NameOk us) (hl : LexP l 0 ts) (hl' : LexP l' 0 us) (h1 : l.length ≤ 20000) (h1' : l'.length ≤ 20000) (h2 : ts.length ≤ 5000) : SimM (measureM l ts) (measureM l' us) := by
  unfold measureM
  rcases take_sim (fin := (l.length : Int)) (fin' := (l'.length : Int)) (k := 1) (s := []) h with ⟨t, r, u, q, e1, e2, rfl, rfl, g1, g2, g3, h4⟩ | ⟨e, e', e1, e2, h1⟩
  rotate_left
  · rw [e1, e2]; exact h1
  rw [e1, e2]
  simp only
  rw [g3]
  by_cases hk : kindM u.text = 0
  · rw [if_pos hk, if_pos hk]; exact rfl
  rw [if_neg hk, if_neg hk]
  have hk3 : kindM u.text = 1 ∨ kindM u.text = 2 ∨ kindM u.text = 3 := by have := kindM_le u.text; omega
  rcases simE_cases (target_sim (fin := (l.length : Int)) (fin' := (l'.length : Int)) (k := kindM u.text) h4) with ⟨m, r2, q2, e1, e2, h5⟩ | ⟨e, e', e1, e2, h1⟩
  rotate_left
  · rw [e1, e2]; exact h1
  obtain ⟨-, -, -, -, -, -, A, hA⟩ := target_inv hk3 (fun v hv => hn v (by simp [hv])) e1
  obtain ⟨-, -, -, -, -, -, A', hA'⟩ := target_inv hk3 (fun v hv => hn' v (by simp [hv])) e2
  rw [e1, e2]
  simp only
  unfold bodyM
  have hif : SimE (ifM l r2) (ifM l' q2) := by
    unfold ifM
    rw [← sees_sim h5]
    split
    · rename_i hs
      cases r2 with
      | nil => simp [seesM] at hs
      | cons v r3 =>
        obtain ⟨v', q3, rfl, k1, k2, k3, k4⟩ := h5.cons
        simp only [seesM, Bool.and_eq_true, decide_eq_true_eq] at hs
        have w1 := LexP.after (l := l) (t := v) hs.1 (A := t :: A) (B := r3) (i := 0) (by rw [List.cons_append, ← hA]; exact hl)
        have w2 := LexP.after (l := l') (t := v') (k1 ▸ hs.1) (A := u :: A') (B := q3) (i := 0) (by rw [List.cons_append, ← hA']; exact hl')
        rw [hs.2] at w1
        rw [← k3, hs.2] at w2
        exact cond_sim k4 w1 w2 h1 h1' (by
          rw [hA] at h2
          simp only [List.length_cons, List.length_append, List.tail_cons] at h2 ⊢
          omega)
    · exact ⟨rfl, h5⟩
  rcases simE_cases hif with ⟨f, r3, q3, e1, e2, h6⟩ | ⟨e, e', e1, e2, h1⟩
  rotate_left
  · rw [e1, e2]; exact h1
  rw [e1, e2]
  exact dates_sim h6
/-- The law of gaps. -/
theorem gap_law {l : Bytes} (h : (lexAll l).2.1 = 0) (hl : l.length ≤ 1000) : (parseM l).2.1 = (parseM (linesT (lexAll l).1)).2.1 ∧ (parseM l).1 = (parseM (linesT (lexAll l).1)).1 := by
  obtain ⟨p1, p2, p3⟩ := lexAll_p h
  have hN := lexAll_names l
  obtain ⟨ts, hts⟩ : ∃ ts, ts = (lexAll l).1 := ⟨_, rfl⟩
  rw [← hts] at p1 p3 hN ⊢
  obtain ⟨s1, s2⟩ := LexP.lines p1
  obtain ⟨us, u1, u2⟩ := s1.all (by omega) (by rw [List.length_map]; exact p3)
  have hP' := (lexAll_p (l := linesT ts) (by rw [u1])).1
  have hN' := lexAll_names (linesT ts)
  rw [u1] at hP' hN'
  have hsim := measure_sim (l := l) (l' := linesT ts) (ts := ts) (us := us) u2.symm hN hN' p1 hP' p2 (by omega) p3
  unfold parseM
  rw [u1, if_neg (by simpa using h), ← hts]
  simp only [ne_eq, not_true_eq_false, if_false]
  rcases hx : measureM l ts with e | m
  · rcases hy : measureM (linesT ts) us with e' | m'
    · rw [hx, hy] at hsim; exact ⟨hsim, rfl⟩
    · rw [hx, hy] at hsim; exact hsim.elim
  · rcases hy : measureM (linesT ts) us with e' | m'
    · rw [hx, hy] at hsim; exact hsim.elim
    · rw [hx, hy] at hsim; exact ⟨rfl, hsim⟩
end Go.Cz.Vd
