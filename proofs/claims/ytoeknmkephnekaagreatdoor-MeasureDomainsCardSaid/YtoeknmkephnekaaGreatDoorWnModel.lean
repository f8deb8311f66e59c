/-
  What the windows' functions compute, in plain Lean.
-/
import Derived.Test.YtoeknmkephnekaaGreatDoorClModel
import Derived.Test.YtoeknmkephnekaaGreatDoorClLaws
namespace Go.Cz.Wn
open Go.Cz.Ck
/-- A measure, as a value. -/
structure Ms where
  id : ByteArray
  auth : ByteArray
  kind : Int
  target : ByteArray
  op : Int
  name : ByteArray
  cmp : Int
  num : Int
  ka : Option Addr
  kn : Nat
  kc : Nat
  fr : Int
  un : Int
  wi : Int
abbrev Ms.v (m : Ms) : Array Value := #[.string m.id, .string m.auth, .int .i64 m.kind, .string m.target, .int .i64 m.op, .string m.name, .int .i64 m.cmp, .int .i64 m.num, .slice m.ka m.kn m.kc, .int .i64 m.fr, .int .i64 m.un, .int .i64 m.wi]
def dayB (n : Int) : Bool := decide (0 ≤ n) && decide (n ≤ 100000)
theorem dayB_true {n : Int} : dayB n = true ↔ 0 ≤ n ∧ n ≤ 100000 := by simp [dayB]
theorem dayB_false {n : Int} : dayB n = false ↔ n < 0 ∨ 100000 < n := by
  cases h : dayB n with
  | true => have := dayB_true.1 h; simp; omega
  | false =>
    simp
    have : ¬ (0 ≤ n ∧ n ≤ 100000) := fun h' => by rw [dayB_true.2 h'] at h; cases h
    omega
def datedB (kind fr un wi : Int) : Bool := dayB fr && (decide (0 ≤ wi) && (decide (wi ≤ 400) && ((decide (wi ≤ 0) || kind == 1) && (un == -1 || (dayB un && decide (fr < un))))))
/-- The beginning of a day, -1 if there is none. -/
def beginF (l : List Shift) (day : Int) : Int := if (instF l day 0).2 = 0 then (instF l day 0).1 else -1
def spanF (l : List Shift) (kind fr un wi : Int) : Int × Int × Int :=
  if datedB kind fr un wi && validB l then
    if (instF l fr 0).2 = 0 then ((instF l fr 0).1, if un < 0 then -1 else beginF l un, 0) else (0, 0, 10)
  else (0, 0, 1)
def appliesF (l : List Shift) (kind fr un wi signed now : Int) : Bool :=
  (spanF l kind fr un wi).2.2 == 0 && (instB signed && (instB now && (decide ((spanF l kind fr un wi).1 ≤ now) && ((decide ((spanF l kind fr un wi).2.1 < 0) || decide (now < (spanF l kind fr un wi).2.1)) &&
    (decide ((spanF l kind fr un wi).1 ≤ signed) || (decide (0 ≤ beginF l (fr + wi)) && decide (beginF l (fr + wi) ≤ now)))))))
theorem inst_ok {l : List Shift} (h : validB l = true) (d : Int) : ((instF l d 0).2 = 0 ∧ 0 ≤ (instF l d 0).1 ∧ (instF l d 0).1 ≤ 144001439) ∨ ((instF l d 0).2 = 10 ∧ (instF l d 0).1 = 0) := by
  rcases inst_law h (d := d) (m := 0) (by omega) (by omega) with ⟨h1, h2, h3, -⟩ | ⟨h1, h2, -⟩
  · exact .inl ⟨h1, h2, h3⟩
  · exact .inr ⟨h1, h2⟩
theorem begin_ok {l : List Shift} (h : validB l = true) (d : Int) : -1 ≤ beginF l d ∧ beginF l d ≤ 144001439 := by
  unfold beginF
  rcases inst_ok h d with ⟨h1, h2, h3⟩ | ⟨h1, h2⟩
  · rw [if_pos h1]; omega
  · rw [if_neg (by omega)]; omega
theorem span_zero {l : List Shift} {kind fr un wi : Int} (h : (spanF l kind fr un wi).2.2 = 0) : datedB kind fr un wi = true ∧ validB l = true ∧ (instF l fr 0).2 = 0 ∧ (spanF l kind fr un wi).1 = (instF l fr 0).1 ∧ (spanF l kind fr un wi).2.1 = if un < 0 then -1 else beginF l un := by
  unfold spanF at h ⊢
  cases hd : datedB kind fr un wi
  · rw [hd] at h; simp at h
  cases hv : validB l
  · rw [hd, hv] at h; simp at h
  rw [hd, hv] at h
  simp only [Bool.and_self, if_true] at h ⊢
  by_cases h0 : (instF l fr 0).2 = 0
  · rw [if_pos h0]; exact ⟨trivial, trivial, h0, rfl, rfl⟩
  · rw [if_neg h0] at h; simp at h
theorem dated_in {kind fr un wi : Int} (h : datedB kind fr un wi = true) : 0 ≤ fr ∧ fr ≤ 100000 ∧ 0 ≤ wi ∧ wi ≤ 400 ∧ (un = -1 ∨ fr < un ∧ un ≤ 100000) ∧ (wi = 0 ∨ kind = 1) := by
  simp only [datedB, Bool.and_eq_true, dayB_true, decide_eq_true_eq, Bool.or_eq_true, beq_iff_eq] at h
  omega
/-- Whether a measure applies, when there is a span. -/
theorem applies_ok {l : List Shift} {kind fr un wi signed now S1 S2 : Int} (h : spanF l kind fr un wi = (S1, S2, 0)) (h1 : instB signed = true) (h2 : instB now = true) (h3 : S1 ≤ now) (h4 : S2 < 0 ∨ now < S2) :
    appliesF l kind fr un wi signed now = (decide (S1 ≤ signed) || (decide (0 ≤ beginF l (fr + wi)) && decide (beginF l (fr + wi) ≤ now))) := by
  have h5 : (decide (S2 < 0) || decide (now < S2)) = true := by simp; exact h4
  unfold appliesF
  rw [h]
  simp only [h1, h2, h5, decide_eq_true h3]
  simp
theorem applies_no {l : List Shift} {kind fr un wi signed now S1 S2 S3 : Int} (h : spanF l kind fr un wi = (S1, S2, S3)) (hn : S3 ≠ 0 ∨ instB signed = false ∨ instB now = false ∨ now < S1 ∨ (0 ≤ S2 ∧ S2 ≤ now)) :
    appliesF l kind fr un wi signed now = false := by
  unfold appliesF
  rw [h]
  rcases hn with h1 | h1 | h1 | h1 | ⟨h1, h2⟩
  · simp [h1]
  · simp [h1]
  · simp [h1]
  · have : decide (S1 ≤ now) = false := decide_eq_false (by omega)
    simp [this]
  · have h3 : (decide (S2 < 0) || decide (now < S2)) = false := by simp; omega
    simp only [h3]
    simp
end Go.Cz.Wn
