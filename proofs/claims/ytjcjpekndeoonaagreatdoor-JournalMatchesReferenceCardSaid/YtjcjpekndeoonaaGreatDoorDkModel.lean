/-
  What a disk with pending writes computes, in plain Lean: no program in sight.
-/
import Derived.Test.YtjcjpekndeoonaaGreatDoorBase
namespace Go.Cz.Dk
abbrev Bytes := List UInt8

/-- Stable sectors, pending writes, whether the disk is off, and when and how its power fails. -/
structure Dm where
  st : List Bytes
  q : List (Nat × Bytes)
  off : Bool
  al : Option (Int × Int × Int)

def Dm.ok (m : Dm) : Prop := (∀ s ∈ m.st, s.length = 64) ∧ (∀ p ∈ m.q, p.1 < m.st.length ∧ p.2.length = 64) ∧ (∀ x, m.al = some x → 0 ≤ x.1 ∧ x.1 ≤ 9223372036854775807)

/-- The first bytes of a sector are replaced. -/
def setS (st : List Bytes) (i : Nat) (t : Bytes) : List Bytes := st.modify i fun s => t ++ s.drop t.length
def settle (st : List Bytes) (q : List (Nat × Bytes)) : List Bytes := q.foldl (fun s p => setS s p.1 p.2) st
/-- n between 0 and hi. -/
def clamp (n : Int) (hi : Nat) : Nat := (min (max n 0) (hi : Int)).toNat

def fail (m : Dm) (w b : Int) : Dm :=
  if m.off then m else
  let st := settle m.st (m.q.take (clamp w m.q.length))
  { st := match m.q[clamp w m.q.length]? with | some p => setS st p.1 (p.2.take (clamp b 64)) | none => st, q := [], off := true, al := none }
def count (m : Dm) : Dm × Int :=
  match m.al with
  | none => (m, 0)
  | some (a, w, b) => if 0 < a then ({ m with al := some (a - 1, w, b) }, 0) else (fail m w b, 26)
def valid (m : Dm) (s : Int) : Bool := decide (0 ≤ s) && decide (s < m.st.length)
def write (m : Dm) (s : Int) (t : Bytes) : Dm × Int :=
  if m.off then (m, 26) else if valid m s && t.length == 64 then count { m with q := m.q ++ [(s.toNat, t)] } else (m, 1)
/-- What is read last from a sector. -/
def look (m : Dm) (s : Nat) : Bytes :=
  match m.q.reverse.find? (fun p => p.1 == s) with
  | some p => p.2
  | none => m.st.getD s []
def read (m : Dm) (s : Int) : Bytes × Int := if m.off then ([], 26) else if valid m s then (look m s.toNat, 0) else ([], 1)
def sync (m : Dm) : Dm × Int :=
  if m.off then (m, 26) else
  if (count m).2 != 0 then count m else ({ (count m).1 with st := settle (count m).1.st (count m).1.q, q := [] }, 0)
def start (m : Dm) : Dm := { m with off := false, al := none }
def arm (m : Dm) (a w b : Int) : Dm := if m.off then m else { m with al := if 0 ≤ a then some (a, w, b) else none }
def rotOk (m : Dm) (s at' mask : Int) : Bool := valid m s && (decide (0 ≤ at') && (decide (at' < 64) && (decide (0 < mask) && decide (mask < 256))))
def rot (m : Dm) (s at' mask : Int) : Dm :=
  if rotOk m s at' mask then { m with st := m.st.modify s.toNat fun t => t.modify at'.toNat fun b => b ^^^ UInt8.ofNat mask.toNat } else m
def raw (m : Dm) : Bytes := m.st.flatten
def fresh (n : Nat) : Dm := { st := List.replicate n (List.replicate 64 0), q := [], off := false, al := none }

theorem length_setS (st : List Bytes) (i : Nat) (t : Bytes) : (setS st i t).length = st.length := by simp [setS]
theorem setS_all {st : List Bytes} {i : Nat} {t : Bytes} (h : ∀ s ∈ st, s.length = 64) (ht : t.length ≤ 64) : ∀ s ∈ setS st i t, s.length = 64 := by
  intro s hs
  unfold setS at hs
  obtain ⟨k, hk, hs⟩ := List.mem_iff_getElem.1 hs
  rw [List.getElem_modify] at hs
  have h0 := h (st[k]'(by simpa using hk)) (List.getElem_mem _)
  split at hs
  · rw [← hs]; simp; omega
  · rw [← hs]; exact h0
theorem length_settle (q : List (Nat × Bytes)) : ∀ st : List Bytes, (settle st q).length = st.length := by
  unfold settle
  induction q with
  | nil => intro st; rfl
  | cons p q ih => intro st; rw [List.foldl_cons, ih, length_setS]
theorem settle_all (q : List (Nat × Bytes)) : ∀ st : List Bytes, (∀ s ∈ st, s.length = 64) → (∀ p ∈ q, p.2.length = 64) → ∀ s ∈ settle st q, s.length = 64 := by
  unfold settle
  induction q with
  | nil => intro st h _; exact h
  | cons p q ih => intro st h hq; rw [List.foldl_cons]; exact ih _ (setS_all h (by have := hq p (by simp); omega)) (fun p' hp' => hq p' (by simp [hp']))
theorem ok_fail {m : Dm} (h : m.ok) (w b : Int) : (fail m w b).ok := by
  obtain ⟨h1, h2, h3⟩ := h
  unfold fail
  split
  · exact ⟨h1, h2, h3⟩
  · have hq : ∀ p ∈ m.q.take (clamp w m.q.length), p.2.length = 64 := fun p hp => (h2 p (List.mem_of_mem_take hp)).2
    refine ⟨?_, by simp, by simp⟩
    dsimp only
    split
    · rename_i p hp
      refine setS_all (settle_all _ _ h1 hq) ?_
      have := (h2 p (List.mem_of_getElem? hp)).2
      simp; omega
    · exact settle_all _ _ h1 hq
theorem length_fail (m : Dm) (w b : Int) : (fail m w b).st.length = m.st.length := by
  unfold fail
  split
  · rfl
  · dsimp only
    split
    · rw [length_setS, length_settle]
    · rw [length_settle]
theorem ok_count {m : Dm} (h : m.ok) : (count m).1.ok := by
  unfold count
  split
  · exact h
  · rename_i a w b hal
    split
    · refine ⟨h.1, h.2.1, ?_⟩
      intro x hx
      have := h.2.2 _ hal
      cases hx
      dsimp only at this ⊢
      omega
    · exact ok_fail h w b
theorem length_count (m : Dm) : (count m).1.st.length = m.st.length := by
  unfold count
  split
  · rfl
  · split
    · rfl
    · exact length_fail _ _ _
theorem ok_write {m : Dm} (h : m.ok) (s : Int) (t : Bytes) : (write m s t).1.ok := by
  unfold write
  split
  · exact h
  · split
    · rename_i hv
      simp only [valid, Bool.and_eq_true, decide_eq_true_eq, beq_iff_eq] at hv
      refine ok_count ⟨h.1, ?_, h.2.2⟩
      intro p hp
      rcases List.mem_append.1 hp with hp | hp
      · exact h.2.1 p hp
      · simp at hp; subst hp; exact ⟨by dsimp only; omega, hv.2⟩
    · exact h
theorem length_write (m : Dm) (s : Int) (t : Bytes) : (write m s t).1.st.length = m.st.length := by
  unfold write
  split
  · rfl
  · split
    · rw [length_count]
    · rfl
theorem ok_sync {m : Dm} (h : m.ok) : (sync m).1.ok := by
  unfold sync
  split
  · exact h
  · split
    · exact ok_count h
    · have hc := ok_count h
      exact ⟨settle_all _ _ hc.1 (fun p hp => (hc.2.1 p hp).2), by simp, hc.2.2⟩
theorem length_sync (m : Dm) : (sync m).1.st.length = m.st.length := by
  unfold sync
  split
  · rfl
  · split
    · exact length_count m
    · dsimp only; rw [length_settle, length_count]
theorem ok_start {m : Dm} (h : m.ok) : (start m).ok := ⟨h.1, h.2.1, by simp [start]⟩
theorem ok_arm {m : Dm} (h : m.ok) (a w b : Int) (ha : a ≤ 9223372036854775807) : (arm m a w b).ok := by
  unfold arm
  split
  · exact h
  · refine ⟨h.1, h.2.1, ?_⟩
    intro x hx
    dsimp only at hx
    split at hx
    · cases hx; exact ⟨by assumption, ha⟩
    · cases hx
theorem length_arm (m : Dm) (a w b : Int) : (arm m a w b).st.length = m.st.length := by unfold arm; split <;> rfl
theorem ok_rot {m : Dm} (h : m.ok) (s a k : Int) : (rot m s a k).ok := by
  unfold rot
  split
  · refine ⟨?_, fun p hp => by have := h.2.1 p hp; simpa using this, h.2.2⟩
    intro t ht
    obtain ⟨i, hi, ht⟩ := List.mem_iff_getElem.1 ht
    rw [List.getElem_modify] at ht
    have h0 := h.1 (m.st[i]'(by simpa using hi)) (List.getElem_mem _)
    split at ht
    · rw [← ht]; simpa using h0
    · rw [← ht]; exact h0
  · exact h
theorem length_rot (m : Dm) (s a k : Int) : (rot m s a k).st.length = m.st.length := by unfold rot; split <;> simp
theorem ok_fresh (n : Nat) : (fresh n).ok := ⟨fun s hs => by simp [fresh] at hs; rw [hs.2]; simp, by simp [fresh], by simp [fresh]⟩
theorem clamp_le (n : Int) (hi : Nat) : clamp n hi ≤ hi := by unfold clamp; omega
theorem length_flatten_of {st : List Bytes} (h : ∀ s ∈ st, s.length = 64) : st.flatten.length = st.length * 64 := by
  induction st with
  | nil => rfl
  | cons s st ih =>
    rw [List.flatten_cons, List.length_append, ih (fun s hs => h s (by simp [hs])), h s (by simp), List.length_cons]
    omega
theorem splice_map {α β : Type} (f : α → β) (L cs : List α) (off : Nat) : splice (L.map f) off (cs.map f) = (splice L off cs).map f := by
  simp [splice, List.map_take, List.map_drop]
theorem splice_flatten {st : List Bytes} (h : ∀ s ∈ st, s.length = 64) {i : Nat} (hi : i < st.length) {t : Bytes} (ht : t.length ≤ 64) :
    splice st.flatten (i * 64) t = (setS st i t).flatten := by
  induction st generalizing i with
  | nil => simp at hi
  | cons s st ih =>
    have hs := h s (by simp)
    cases i with
    | zero =>
      simp only [splice, setS, Nat.zero_mul, List.take_zero, List.nil_append, Nat.zero_add, List.modify_zero_cons, List.flatten_cons, List.append_assoc]
      rw [List.drop_append_of_le_length (by omega)]
    | succ i =>
      have ih' := ih (fun s hs => h s (by simp [hs])) (i := i) (by simpa using hi)
      simp only [splice, setS, List.modify_succ_cons, List.flatten_cons] at ih' ⊢
      rw [← ih', show (i + 1) * 64 = s.length + i * 64 by omega, List.take_append, List.take_of_length_le (by omega : s.length ≤ s.length + i * 64), Nat.add_sub_cancel_left, List.append_assoc, Nat.add_assoc, List.drop_append, List.drop_of_length_le (by omega : s.length ≤ s.length + (i * 64 + t.length)), Nat.add_sub_cancel_left]
      simp
theorem look_found {m : Dm} {s k : Nat} {p : Nat × Bytes} (hp : m.q[k]? = some p) (hs : p.1 = s) (h : ∀ (j : Nat), k < j → ∀ x : Nat × Bytes, m.q[j]? = some x → x.1 ≠ s) : look m s = p.2 := by
  have hk : k < m.q.length := (List.getElem?_eq_some_iff.1 hp).1
  have hq : m.q = m.q.take k ++ p :: m.q.drop (k + 1) := by
    have e := (List.getElem?_eq_some_iff.1 hp).2
    rw [← e, List.getElem_cons_drop, List.take_append_drop]
  have hf : m.q.reverse.find? (fun p => p.1 == s) = some p := by
    rw [hq, List.reverse_append, List.reverse_cons, List.append_assoc, List.find?_append]
    have h0 : (m.q.drop (k + 1)).reverse.find? (fun p => p.1 == s) = none := by
      rw [List.find?_eq_none]
      intro x hx
      obtain ⟨i, hi⟩ := List.getElem?_of_mem (List.mem_reverse.1 hx)
      rw [List.getElem?_drop] at hi
      simpa using h (k + 1 + i) (by omega) x hi
    rw [h0]
    simp [hs]
  unfold look
  rw [hf]
theorem look_none {m : Dm} {s : Nat} (h : ∀ (j : Nat) (x : Nat × Bytes), m.q[j]? = some x → x.1 ≠ s) : look m s = m.st.getD s [] := by
  have hf : m.q.reverse.find? (fun p => p.1 == s) = none := by
    rw [List.find?_eq_none]
    intro x hx
    obtain ⟨i, hi⟩ := List.getElem?_of_mem (List.mem_reverse.1 hx)
    simpa using h i x hi
  unfold look
  rw [hf]
theorem flatten_window {st : List Bytes} (h : ∀ s ∈ st, s.length = 64) {i : Nat} (hi : i < st.length) : (st.flatten.drop (i * 64)).take 64 = st.getD i [] := by
  induction st generalizing i with
  | nil => simp at hi
  | cons s st ih =>
    have hs := h s (by simp)
    cases i with
    | zero => simp [hs]
    | succ i =>
      have ih' := ih (fun s hs => h s (by simp [hs])) (i := i) (by simpa using hi)
      rw [List.flatten_cons, show (i + 1) * 64 = s.length + i * 64 by omega, List.drop_append, List.drop_of_length_le (by omega : s.length ≤ s.length + i * 64), List.nil_append, Nat.add_sub_cancel_left, ih']
      simp
theorem modify_flatten {st : List Bytes} (h : ∀ s ∈ st, s.length = 64) {i a : Nat} (ha : a < 64) (f : UInt8 → UInt8) :
    st.flatten.modify (i * 64 + a) f = (st.modify i fun t => t.modify a f).flatten := by
  induction st generalizing i with
  | nil => simp
  | cons s st ih =>
    have hs := h s (by simp)
    have hm : ∀ (l r : Bytes) (n : Nat), (l ++ r).modify n f = if n < l.length then l.modify n f ++ r else l ++ r.modify (n - l.length) f := by
      intro l
      induction l with
      | nil => intro r n; simp
      | cons x l ihl =>
        intro r n
        cases n with
        | zero => simp
        | succ n => simp only [List.cons_append, List.modify_succ_cons, ihl, List.length_cons, Nat.add_lt_add_iff_right, Nat.add_sub_add_right]; split <;> simp
    cases i with
    | zero => rw [List.flatten_cons, hm, if_pos (by omega)]; simp
    | succ i =>
      rw [List.flatten_cons, hm, if_neg (by omega), show (i + 1) * 64 + a - s.length = i * 64 + a by omega, ih (fun s hs => h s (by simp [hs]))]
      simp
end Go.Cz.Dk
