/-
  Frozen accounts and a ledger with two accounts, in plain terms.
-/
import Derived.Test.YtlkihpgpcgeogaaDoorBase
namespace Go.Cz.Td
set_option linter.unusedVariables false
/-- A movement: its day and its units. -/
abbrev Mv := Int × Int
def MU : Int := 1000000000000
def tot : List Mv → Int
  | [] => 0
  | m :: r => m.2 + tot r
structure Acc where
  r0 : Int
  r1 : Int
  ms : List Mv
  closed : Bool
def lastD : List Mv → Int
  | [] => 0
  | [m] => m.1
  | _ :: r => lastD r
def isDay (d : Int) : Bool := decide (0 ≤ d ∧ d ≤ 100000)
def inB (n lo hi : Int) : Bool := decide (lo ≤ n ∧ n ≤ hi)
def newA (r0 r1 d u : Int) : Bool := inB r0 0 10000 && inB r1 0 10000 && isDay d && inB u 0 MU
def addE (a : Acc) (d u : Int) (lic : Bool) : Nat :=
  if a.closed then 29 else if lic = false then 20 else if d < lastD a.ms then 14
  else if tot a.ms + u < 0 then 21 else if 1000 ≤ a.ms.length ∨ MU < tot a.ms + u then 2 else 0
def addA (a : Acc) (d u : Int) (lic : Bool) : Acc := if addE a d u lic = 0 then { a with ms := a.ms ++ [(d, u)] } else a
def recvE (a : Acc) (d u : Int) : Nat := if isDay d && inB u 1 MU then addE a d u true else 1
def recvA (a : Acc) (d u : Int) : Acc := if recvE a d u = 0 then { a with ms := a.ms ++ [(d, u)] } else a
def moveE (a : Acc) (d u : Int) (lic : Bool) : Nat := if isDay d && inB u 1 MU then addE a d (-u) lic else 1
def moveA (a : Acc) (d u : Int) (lic : Bool) : Acc := if moveE a d u lic = 0 then { a with ms := a.ms ++ [(d, -u)] } else a
/-- All balances are within the bounds. -/
def preOk : Int → List Mv → Bool
  | _, [] => true
  | b, m :: r => inB (b + m.2) 0 MU && preOk (b + m.2) r
def putU (ms : List Mv) (i : Nat) (u : Int) : List Mv := match ms[i]? with
  | some m => ms.set i (m.1, u)
  | none => ms
def corrE (a : Acc) (i u : Int) : Nat :=
  if inB u (-MU) MU = false then 1 else if a.closed then 29 else if inB i 0 ((a.ms.length : Int) - 1) = false then 11
  else if preOk 0 (putU a.ms i.toNat u) then 0 else 21
def corrA (a : Acc) (i u : Int) : Acc := if corrE a i u = 0 then { a with ms := putU a.ms i.toNat u } else a
def balA (a : Acc) : Int := if a.closed then 0 else tot a.ms
/-- The sum of the balances of all days up to 'd'. -/
def area (d : Int) : Int → Int → Int → List Mv → Int
  | since, held, total, [] => total + held * (d - since)
  | since, held, total, m :: r => area d m.1 (held + m.2) (total + held * (m.1 - since)) r
def firstD : List Mv → Int
  | [] => 0
  | m :: _ => m.1
def areaM (ms : List Mv) (d : Int) : Int := area d (firstD ms) 0 0 ms
def yearU : Int := 3650000
def intE (a : Acc) (d : Int) : Nat := if isDay d = false then 1 else if a.closed then 29 else if d < lastD a.ms then 14 else 0
def intV (a : Acc) (d : Int) (flag : Bool) : Int :=
  let t := areaM a.ms d
  let r := if flag then a.r1 else a.r0
  t / yearU * r + t % yearU * r / yearU
def intN (a : Acc) (d : Int) (flag : Bool) : Int := if intE a d = 0 then intV a d flag else 0
/-- Days do not go back. -/
def sortD : Int → List Mv → Prop
  | _, [] => True
  | d, m :: r => d ≤ m.1 ∧ m.1 ≤ 100000 ∧ sortD m.1 r
/-- What an account always is like. -/
structure GoodA (a : Acc) : Prop where
  some : a.ms ≠ []
  days : sortD 0 a.ms
  pre : preOk 0 a.ms = true
  len : a.ms.length ≤ 1000
  r0 : 0 ≤ a.r0 ∧ a.r0 ≤ 10000
  r1 : 0 ≤ a.r1 ∧ a.r1 ≤ 10000
theorem inB_iff {n lo hi : Int} : inB n lo hi = true ↔ lo ≤ n ∧ n ≤ hi := by simp [inB]
theorem isDay_iff {d : Int} : isDay d = true ↔ 0 ≤ d ∧ d ≤ 100000 := by simp [isDay]
theorem tot_append : ∀ (l r : List Mv), tot (l ++ r) = tot l + tot r
  | [], r => by simp [tot]
  | m :: l, r => by simp only [List.cons_append, tot, tot_append l r]; omega
theorem lastD_append (d u : Int) : ∀ l : List Mv, lastD (l ++ [(d, u)]) = d
  | [] => rfl
  | [m] => rfl
  | m :: n :: r => by
    show lastD (m :: (n :: r ++ [(d, u)])) = d
    have h := lastD_append d u (n :: r)
    simp only [List.cons_append] at h ⊢
    rw [lastD]
    · exact h
    · simp
theorem pre_append : ∀ (b : Int) (l : List Mv) (m : Mv), preOk b (l ++ [m]) = (preOk b l && inB (b + tot l + m.2) 0 MU)
  | b, [], m => by simp [preOk, tot]
  | b, x :: l, m => by
    simp only [List.cons_append, preOk, pre_append, tot, Bool.and_assoc]
    rw [show b + x.2 + tot l + m.2 = b + (x.2 + tot l) + m.2 by omega]
theorem pre_tot : ∀ (b : Int) (l : List Mv), preOk b l = true → 0 ≤ b → b ≤ MU → 0 ≤ b + tot l ∧ b + tot l ≤ MU
  | b, [], _, h0, h1 => by simp [tot]; exact ⟨h0, h1⟩
  | b, m :: r, h, h0, h1 => by
    simp only [preOk, Bool.and_eq_true] at h
    have h2 := inB_iff.1 h.1
    have h3 := pre_tot (b + m.2) r h.2 h2.1 h2.2
    simp only [tot]
    omega
theorem sort_append : ∀ (d : Int) (l : List Mv) (e u : Int), sortD d l → d ≤ e → e ≤ 100000 → lastD l ≤ e → sortD d (l ++ [(e, u)])
  | d, [], e, u, _, h1, h2, _ => ⟨h1, h2, trivial⟩
  | d, [m], e, u, h, h1, h2, h3 => ⟨h.1, h.2.1, h3, h2, trivial⟩
  | d, m :: n :: r, e, u, h, h1, h2, h3 => by
    have h4 : m.1 ≤ lastD (n :: r) := last_ge m.1 (n :: r) h.2.2 (by simp)
    have h5 : lastD (n :: r) ≤ e := h3
    exact ⟨h.1, h.2.1, sort_append m.1 (n :: r) e u h.2.2 (by omega) h2 h3⟩
where
  last_ge : ∀ (d : Int) (l : List Mv), sortD d l → l ≠ [] → d ≤ lastD l
  | d, [], _, h => absurd rfl h
  | d, [m], h, _ => h.1
  | d, m :: n :: r, h, _ => Int.le_trans h.1 (last_ge m.1 (n :: r) h.2.2 (by simp))
theorem lastD_mem : ∀ (l : List Mv), l ≠ [] → ∃ m ∈ l, m.1 = lastD l
  | [], h => absurd rfl h
  | [m], _ => ⟨m, by simp, rfl⟩
  | m :: n :: r, _ => by
    obtain ⟨x, h1, h2⟩ := lastD_mem (n :: r) (by simp)
    exact ⟨x, List.mem_cons_of_mem _ h1, h2⟩
theorem putU_map (u : Int) : ∀ (ms : List Mv) (i : Nat), (putU ms i u).map (·.1) = ms.map (·.1) := by
  intro ms i
  unfold putU
  split
  · rename_i m h
    rw [List.map_set]
    obtain ⟨h1, rfl⟩ := List.getElem?_eq_some_iff.1 h
    apply List.ext_getElem
    · simp
    · intro j h2 h3
      rw [List.getElem_set]
      split
      · rename_i e; subst e; simp
      · rfl
  · rfl
theorem sort_of_days : ∀ (d : Int) (l l' : List Mv), l.map (·.1) = l'.map (·.1) → sortD d l → sortD d l'
  | d, [], [], _, _ => trivial
  | d, [], m :: r, h, _ => by simp at h
  | d, m :: r, [], h, _ => by simp at h
  | d, m :: r, n :: q, h, h1 => by
    simp only [List.map_cons, List.cons.injEq] at h
    exact ⟨by rw [← h.1]; exact h1.1, by rw [← h.1]; exact h1.2.1, by rw [← h.1]; exact sort_of_days m.1 r q h.2 h1.2.2⟩
theorem lastD_of_days : ∀ (l l' : List Mv), l.map (·.1) = l'.map (·.1) → lastD l = lastD l'
  | [], [], _ => rfl
  | [], m :: r, h => by simp at h
  | m :: r, [], h => by simp at h
  | [m], [n], h => by simpa [lastD] using h
  | [m], n :: x :: q, h => by simp at h
  | m :: x :: r, [n], h => by simp at h
  | m :: x :: r, n :: y :: q, h => by
    simp only [List.map_cons, List.cons.injEq] at h
    exact lastD_of_days (x :: r) (y :: q) (by simp only [List.map_cons, List.cons.injEq]; exact h.2)
theorem putU_length (u : Int) (ms : List Mv) (i : Nat) : (putU ms i u).length = ms.length := by
  have h := congrArg List.length (putU_map u ms i)
  simpa using h
theorem putU_some {u : Int} {ms : List Mv} {i : Nat} {m : Mv} (h : ms[i]? = some m) : putU ms i u = ms.set i (m.1, u) := by simp [putU, h]
theorem addE_zero {a : Acc} {d u : Int} {lic : Bool} (h : addE a d u lic = 0) : a.closed = false ∧ lic = true ∧ lastD a.ms ≤ d ∧ 0 ≤ tot a.ms + u ∧ a.ms.length < 1000 ∧ tot a.ms + u ≤ MU := by
  unfold addE at h
  repeat' split at h
  all_goals first | omega | skip
  rename_i h1 h2 h3 h4 h5
  refine ⟨by simpa using h1, by simpa using h2, by omega, by omega, by omega, by omega⟩
theorem GoodA.add {a : Acc} (g : GoodA a) {d u : Int} {lic : Bool} (hd : isDay d = true) (h : addE a d u lic = 0) : GoodA { a with ms := a.ms ++ [(d, u)] } := by
  obtain ⟨-, -, h3, h4, h5, h6⟩ := addE_zero h
  have hd' := isDay_iff.1 hd
  refine ⟨by simp, sort_append 0 a.ms d u g.days hd'.1 hd'.2 h3, ?_, ?_, g.r0, g.r1⟩
  · show preOk 0 (a.ms ++ [(d, u)]) = true
    rw [pre_append, g.pre, Bool.true_and]
    exact inB_iff.2 ⟨by omega, by omega⟩
  · show (a.ms ++ [(d, u)]).length ≤ 1000
    simp; omega
theorem GoodA.recv {a : Acc} (g : GoodA a) (d u : Int) : GoodA (recvA a d u) := by
  unfold recvA
  split
  · rename_i h
    unfold recvE at h
    split at h
    · rename_i h2
      rw [Bool.and_eq_true] at h2
      exact g.add h2.1 h
    · omega
  · exact g
theorem GoodA.move {a : Acc} (g : GoodA a) (d u : Int) (lic : Bool) : GoodA (moveA a d u lic) := by
  unfold moveA
  split
  · rename_i h
    unfold moveE at h
    split at h
    · rename_i h2
      rw [Bool.and_eq_true] at h2
      exact g.add h2.1 h
    · omega
  · exact g
theorem corrE_zero {a : Acc} {i u : Int} (h : corrE a i u = 0) : a.closed = false ∧ 0 ≤ i ∧ i < a.ms.length ∧ preOk 0 (putU a.ms i.toNat u) = true := by
  unfold corrE at h
  repeat' split at h
  all_goals first | omega | skip
  rename_i h1 h2 h3 h4
  have h5 := inB_iff.1 (by simpa using h3)
  exact ⟨by simpa using h2, by omega, by omega, h4⟩
theorem GoodA.corr {a : Acc} (g : GoodA a) (i u : Int) : GoodA (corrA a i u) := by
  unfold corrA
  split
  · rename_i h
    obtain ⟨h1, h2, h3, h4⟩ := corrE_zero h
    refine ⟨?_, sort_of_days 0 a.ms _ (putU_map u _ _).symm g.days, h4, ?_, g.r0, g.r1⟩
    · intro h5
      have h6 := putU_length u a.ms i.toNat
      rw [show putU a.ms i.toNat u = [] from h5] at h6
      exact g.some (List.length_eq_zero_iff.1 h6.symm)
    · show (putU a.ms i.toNat u).length ≤ 1000
      rw [putU_length]; exact g.len
  · exact g
theorem new_good {r0 r1 d u : Int} (h : newA r0 r1 d u = true) : GoodA ⟨r0, r1, [(d, u)], false⟩ := by
  simp only [newA, Bool.and_eq_true] at h
  obtain ⟨⟨⟨h1, h2⟩, h3⟩, h4⟩ := h
  have hd := isDay_iff.1 h3
  refine ⟨by simp, ⟨hd.1, hd.2, trivial⟩, ?_, by simp, inB_iff.1 h1, inB_iff.1 h2⟩
  simp only [preOk, Bool.and_true, Int.zero_add]
  exact h4
/-! What the ledger holds at the end of a day. -/
/-- The units of all movements up to a day. -/
def upTo (d : Int) : List Mv → Int
  | [] => 0
  | m :: r => (if m.1 ≤ d then m.2 else 0) + upTo d r
/-- The sum of what is held at the ends of 'n' days from 'd' on. -/
def sumD (ms : List Mv) (d : Int) : Nat → Int
  | 0 => 0
  | n + 1 => sumD ms d n + upTo (d + n) ms
theorem upTo_late : ∀ (d e : Int) (l : List Mv), sortD e l → d < e → upTo d l = 0
  | d, e, [], _, _ => rfl
  | d, e, m :: r, h, h1 => by
    have h2 := h.1
    rw [upTo, if_neg (by omega), upTo_late d m.1 r h.2.2 (by omega)]; rfl
theorem sumD_add (ms : List Mv) (d : Int) (n : Nat) : ∀ k, sumD ms d (n + k) = sumD ms d n + sumD ms (d + n) k
  | 0 => by simp [sumD]
  | k + 1 => by
    rw [← Nat.add_assoc, sumD, sumD_add ms d n k, sumD, show d + ((n + k : Nat) : Int) = d + (n : Int) + (k : Int) by omega]; omega
theorem sumD_skip (m : Mv) (r : List Mv) (d : Int) (h : m.1 ≤ d) : ∀ n, sumD (m :: r) d n = m.2 * n + sumD r d n
  | 0 => by simp [sumD]
  | n + 1 => by
    rw [sumD, sumD_skip m r d h n, sumD, upTo, if_pos (by omega)]
    have e : m.2 * ((n + 1 : Nat) : Int) = m.2 * n + m.2 := by rw [Int.natCast_add, Int.mul_add]; simp
    rw [e]; omega
theorem sumD_none (l : List Mv) (d e : Int) (h : sortD e l) : ∀ n : Nat, d + n ≤ e → sumD l d n = 0
  | 0, _ => rfl
  | n + 1, h1 => by
    rw [sumD, sumD_none l d e h n (by omega), upTo_late _ e l h (by omega)]; rfl
def lastOr : Int → List Mv → Int
  | s, [] => s
  | _, m :: r => lastOr m.1 r
theorem le_lastOr : ∀ (s : Int) (l : List Mv), sortD s l → s ≤ lastOr s l
  | s, [], _ => Int.le_refl _
  | s, m :: r, h => Int.le_trans h.1 (le_lastOr m.1 r h.2.2)
/-- The area is the sum of what is held at the ends of the days. -/
theorem area_sum : ∀ (l : List Mv) (d since held total : Int), sortD since l → lastOr since l ≤ d → area d since held total l = total + held * (d - since) + sumD l since (d - since).toNat
  | [], d, since, held, total, _, h => by
    have e : ∀ n, sumD [] since n = 0 := fun n => by
      induction n with
      | zero => rfl
      | succ n ih => rw [sumD, ih]; rfl
    rw [area, e]; omega
  | m :: r, d, since, held, total, hs, h => by
    have h1 := hs.1
    have h2 : lastOr m.1 r ≤ d := h
    have h3 : m.1 ≤ d := Int.le_trans (le_lastOr m.1 r hs.2.2) h2
    rw [area, area_sum r d m.1 _ _ hs.2.2 h2]
    obtain ⟨a, ha⟩ : ∃ a : Nat, m.1 = since + a := ⟨(m.1 - since).toNat, by omega⟩
    obtain ⟨b, hb⟩ : ∃ b : Nat, d = m.1 + b := ⟨(d - m.1).toNat, by omega⟩
    have e1 : (d - since).toNat = a + b := by omega
    have e2 : (d - m.1).toNat = b := by omega
    rw [e1, e2, sumD_add, sumD_none (m :: r) since m.1 ⟨Int.le_refl _, hs.2.1, hs.2.2⟩ a (by omega), ← ha, sumD_skip m r m.1 (Int.le_refl _)]
    have e3 : d - m.1 = b := by omega
    have e4 : d - since = a + b := by omega
    have e5 : m.1 - since = a := by omega
    rw [e3, e4, e5, Int.mul_add, Int.add_mul]
    omega
theorem lastOr_eq : ∀ (s : Int) (l : List Mv), l ≠ [] → lastOr s l = lastD l
  | s, [], h => absurd rfl h
  | s, [m], _ => rfl
  | s, m :: n :: r, _ => lastOr_eq m.1 (n :: r) (by simp)
theorem areaM_sum {ms : List Mv} {d : Int} (hn : ms ≠ []) (hs : sortD 0 ms) (h : lastD ms ≤ d) : areaM ms d = sumD ms (firstD ms) (d - firstD ms).toNat := by
  rcases ms with _ | ⟨m, r⟩
  · exact absurd rfl hn
  have h1 := area_sum (m :: r) d m.1 0 0 ⟨Int.le_refl _, hs.2.1, hs.2.2⟩ (by rw [lastOr_eq _ _ hn]; exact h)
  unfold areaM
  rw [show firstD (m :: r) = m.1 from rfl, h1]
  simp
/-- The interest is the floor of the sum times the rate. -/
theorem int_floor {t r : Int} (ht : 0 ≤ t) (hr : 0 ≤ r) : t / yearU * r + t % yearU * r / yearU = t * r / yearU := by
  have h : t = yearU * (t / yearU) + t % yearU := (Int.mul_ediv_add_emod t yearU).symm
  obtain ⟨q, hq⟩ : ∃ q, q = t / yearU := ⟨_, rfl⟩
  obtain ⟨s, hs⟩ : ∃ s, s = t % yearU := ⟨_, rfl⟩
  rw [← hq, ← hs] at h ⊢
  rw [h, Int.add_mul, show yearU * q * r = yearU * (q * r) by rw [Int.mul_assoc], Int.mul_add_ediv_left _ _ (by decide : yearU ≠ 0)]
end Go.Cz.Td
