/-
  The plain law of two instants that follow each other.
  What the reference clock computes, in plain Lean, and that it is what the clock computes.
  The reference clock's 'Is': what it returns.
  The reference clock's 'Local' and 'Instant', in plain Lean, and that they are the clock's.
  The reference clock's 'Valid': what it returns.
  The reference clock's 'Instant': what it returns.
  The reference's 'Dated' and 'Begin'.
  The reference's 'Span' and 'Applies' for windows.
-/
import Derived.Test.YtakadfdnhlfijaaGreatDoorClLaws
import Derived.Test.YtakadfdnhlfijaaGreatDoorClBegin
import Derived.Test.YtakadfdnhlfijaaGreatDoorWnDated
import Derived.Test.YtakadfdnhlfijaaGreatDoorWnSpan
namespace Go.Cz.Ck
theorem vgo_tail {i : Nat} {last : Int} {s : Shift} {r : List Shift} (h : vgo i last (s :: r) = true) : vgo (i + 1) s.1 r = true := by
  simp only [vgo, Bool.and_eq_true] at h
  exact h.2
theorem vgo_step : ∀ (l : List Shift) (i : Nat) (last : Int), vgo i last l = true → ∀ (j : Nat) (s s' : Shift), l[j]? = some s → l[j + 1]? = some s' → s.1 < s'.1
  | [], _, _, _, j, s, s', h1, _ => by simp at h1
  | a :: r, i, last, h, 0, s, s', h1, h2 => by
    simp at h1; subst h1
    have := vgo_all r _ _ (vgo_tail h) s' (List.mem_of_getElem? (by simpa using h2))
    exact this.2.2.2.2
  | a :: r, i, last, h, j + 1, s, s', h1, h2 => vgo_step r _ _ (vgo_tail h) j s s' (by simpa using h1) (by simpa using h2)
theorem offS_at {t : Int} : ∀ (l : List Shift) (i : Nat) (last : Int), vgo i last l = true → ∀ (j : Nat) (s : Shift), l[j]? = some s → s.1 ≤ t → t ≤ endAt l j → offS (spans l) t = s.2
  | [], _, _, _, j, s, h1, _, _ => by simp at h1
  | [a], _, _, h, 0, s, h1, h2, h3 => by
    simp at h1; subst h1
    have h4 : t ≤ 144001439 := h3
    simp [spans, offS, h4]
  | [a], _, _, h, j + 1, s, h1, _, _ => by simp at h1
  | a :: b :: r, i, last, h, 0, s, h1, h2, h3 => by
    simp at h1; subst h1
    have h4 : t ≤ b.1 - 1 := h3
    exact offS_here (p := (a, b.1 - 1)) h4
  | a :: b :: r, i, last, h, j + 1, s, h1, h2, h3 => by
    have h1' : (b :: r)[j]? = some s := by simpa using h1
    have hb : b.1 ≤ s.1 := by
      rcases List.mem_cons.1 (List.mem_of_getElem? h1') with rfl | hm
      · exact Int.le_refl _
      · have := vgo_all r _ _ (vgo_tail (vgo_tail h)) s hm
        omega
    have e : offS (spans (a :: b :: r)) t = offS (spans (b :: r)) t := offS_next (p := (a, b.1 - 1)) (by show b.1 - 1 < t; omega)
    rw [e]
    exact offS_at (b :: r) _ _ (vgo_tail h) j s h1' h2 h3
theorem offS_same {t : Int} (ht : t + 1 ≤ 144001439) : ∀ (l : List Shift), (∀ (j : Nat) (s : Shift), l[j + 1]? = some s → s.1 ≠ t + 1) → offS (spans l) (t + 1) = offS (spans l) t
  | [], _ => rfl
  | [a], _ => by
    have h2 : t ≤ 144001439 := by omega
    simp [spans, offS, ht, h2]
  | a :: b :: r, h => by
    have hb : b.1 ≠ t + 1 := h 0 b rfl
    by_cases h1 : t + 1 ≤ b.1 - 1
    · have e1 : offS (spans (a :: b :: r)) (t + 1) = a.2 := offS_here (p := (a, b.1 - 1)) h1
      have e2 : offS (spans (a :: b :: r)) t = a.2 := offS_here (p := (a, b.1 - 1)) (by show t ≤ b.1 - 1; omega)
      rw [e1, e2]
    · have e1 : offS (spans (a :: b :: r)) (t + 1) = offS (spans (b :: r)) (t + 1) := offS_next (p := (a, b.1 - 1)) (by show b.1 - 1 < t + 1; omega)
      have e2 : offS (spans (a :: b :: r)) t = offS (spans (b :: r)) t := offS_next (p := (a, b.1 - 1)) (by show b.1 - 1 < t; omega)
      rw [e1, e2]
      exact offS_same ht (b :: r) fun j s hj => h (j + 1) s (by simpa using hj)
theorem end_ge {l : List Shift} {i : Nat} {last : Int} (h : vgo i last l = true) {j : Nat} {s : Shift} (hj : l[j]? = some s) : s.1 ≤ endAt l j := by
  unfold endAt
  cases hs : l[j + 1]? with
  | none => exact (vgo_all l _ _ h s (List.mem_of_getElem? hj)).2.1
  | some s' => have := vgo_step l _ _ h j s s' hj hs; show s.1 ≤ s'.1 - 1; omega
theorem valid_vgo {l : List Shift} (h : validB l = true) : vgo 0 (-1) l = true := by
  simp only [validB, Bool.and_eq_true] at h
  exact h.1
/-- A shift behind the first begins behind the first instant. -/
theorem later_pos {l : List Shift} (h : validB l = true) {j : Nat} {s : Shift} (h0 : 0 < j) (hj : l[j]? = some s) : 0 < s.1 ∧ s.1 ≤ 144001439 := by
  obtain ⟨k, rfl⟩ : ∃ k, j = k + 1 := ⟨j - 1, by omega⟩
  have hl := (List.getElem?_eq_some_iff.1 hj).1
  have h1 := vgo_step l _ _ (valid_vgo h) k _ s (List.getElem?_eq_getElem (by omega)) hj
  have h2 := valid_all h _ (List.mem_of_getElem? hj)
  have h3 := valid_all h _ (List.getElem_mem (show k < l.length by omega))
  omega
theorem goes_law {l : List Shift} (h : validB l = true) {t : Int} (h1 : 0 ≤ t) (h2 : t + 1 ≤ 144001439) : ∃ a b c d D, localF l t = (a, b, 0) ∧ localF l (t + 1) = (c, d, 0) ∧ 0 ≤ b ∧ b < 1440 ∧ 0 ≤ d ∧ d < 1440 ∧ -1 ≤ a ∧ a ≤ 100001 ∧ -1 ≤ c ∧ c ≤ 100001 ∧ -1680 ≤ D ∧ D ≤ 1680 ∧ 1440 * c + d = 1440 * a + b + 1 + D ∧
    (∀ (j : Nat) (s s' : Shift), l[j]? = some s → l[j + 1]? = some s' → s'.1 = t + 1 → s'.2 - s.2 = D) ∧ ((∀ (j : Nat) (s : Shift), l[j + 1]? = some s → s.1 ≠ t + 1) → D = 0) := by
  have o1 := off_range h t
  have o2 := off_range h (t + 1)
  refine ⟨_, _, _, _, off l (t + 1) - off l t, local_law h h1 (by omega), local_law h (by omega) h2, by omega, by omega, by omega, by omega, by omega, by omega, by omega, by omega, by omega, by omega, by omega, ?_, ?_⟩
  · intro j s s' g1 g2 g3
    have e1 : off l (t + 1) = s'.2 := offS_at l _ _ (valid_vgo h) (j + 1) s' g2 (by omega) (by rw [← g3]; exact end_ge (valid_vgo h) g2)
    have e2 : off l t = s.2 := offS_at l _ _ (valid_vgo h) j s g1 (by have := vgo_step l _ _ (valid_vgo h) j s s' g1 g2; omega) (by unfold endAt; rw [g2]; show t ≤ s'.1 - 1; omega)
    rw [e1, e2]
  · intro hn
    have : off l (t + 1) = off l t := offS_same h2 l hn
    omega
end Go.Cz.Ck
namespace Go.Cz.Ck
/-- The reference's offset: the last shift that has begun. -/
def roff (t : Int) : List Shift → Int → Int
  | [], o => o
  | s :: r, o => roff t r (if s.1 ≤ t then s.2 else o)
theorem roff_skip {t : Int} : ∀ (r : List Shift) (o : Int), (∀ s ∈ r, t < s.1) → roff t r o = o
  | [], _, _ => rfl
  | s :: r, o, h => by
    have h1 := h s (by simp)
    have h2 : ¬ s.1 ≤ t := by omega
    simp only [roff, if_neg h2]
    exact roff_skip r o fun s hs => h s (List.mem_cons_of_mem _ hs)
theorem roff_offS {t : Int} (ht : t ≤ 144001439) : ∀ (r : List Shift) (i : Nat) (last : Int) (s : Shift), vgo i last (s :: r) = true → s.1 ≤ t → roff t r s.2 = offS (spans (s :: r)) t
  | [], i, last, s, h, hs => by simp [roff, spans, offS, ht]
  | b :: r, i, last, s, h, hs => by
    have h2 := vgo_tail h
    by_cases hb : b.1 ≤ t
    · have e : offS (spans (s :: b :: r)) t = offS (spans (b :: r)) t := offS_next (p := (s, b.1 - 1)) (by show b.1 - 1 < t; omega)
      rw [e, ← roff_offS ht r _ _ b h2 hb]
      simp only [roff, if_pos hb]
    · have e : offS (spans (s :: b :: r)) t = s.2 := offS_here (p := (s, b.1 - 1)) (by show t ≤ b.1 - 1; omega)
      rw [e]
      refine roff_skip _ _ fun y hy => ?_
      rcases List.mem_cons.1 hy with rfl | hy
      · omega
      · have := vgo_all r _ _ (vgo_tail h2) y hy
        omega
/-- The two offsets are one. -/
theorem roff_off {l : List Shift} (h : validB l = true) {t : Int} (h1 : 0 ≤ t) (h2 : t ≤ 144001439) : roff t l 0 = off l t := by
  obtain ⟨n1, -⟩ := valid_len h
  have hv := valid_vgo h
  rcases l with _ | ⟨s, r⟩
  · simp at n1
  · have h0 : s.1 = 0 := by
      have := hv
      simp only [vgo, shiftOk, Bool.and_eq_true] at this
      simpa using this.1.1
    have := roff_offS h2 r _ _ s hv (by omega)
    show roff t r (if s.1 ≤ t then s.2 else 0) = _
    rw [if_pos (by omega)]
    exact this
end Go.Cz.Ck
namespace Go.Proofs.YtakadfdnhlfijaaGreatDoor
open Go.RowKit Go.Cz Go.Cz.Ck
set_option linter.unusedSimpArgs false
set_option linter.unusedVariables false
attribute [local go_sem] bs_size bs_extract bs_append bs_toList
attribute [local irreducible] cList
set_option maxHeartbeats 1000000 in
theorem rIs_c (t : Int) (w : World) : Calls Tryz.prog 91 #[.int .i64 t] w fun e w' => e = .returned (.bool (instB t)) ∧ w' = w := by
  by_cases h0 : 0 ≤ t
  · by_cases h1 : t ≤ 144001439
    · have He : Hid (instB t = true) := instB_true.2 ⟨h0, h1⟩
      go_enter Tryz.func91, Tryz.ntmps91
      go_wp2
      go_ret
      exact ⟨by rw [He.out]; rfl, rfl⟩
    · have He : Hid (instB t = false) := instB_false.2 (by omega)
      go_enter Tryz.func91, Tryz.ntmps91
      go_wp2
      go_ret
      exact ⟨by rw [He.out]; rfl, rfl⟩
  · have He : Hid (instB t = false) := instB_false.2 (by omega)
    go_enter Tryz.func91, Tryz.ntmps91
    go_wp2
    go_ret
    exact ⟨by rw [He.out]; rfl, rfl⟩
end Go.Proofs.YtakadfdnhlfijaaGreatDoor
namespace Go.Cz.Ck
/-- The reference adds a day so that the number stays positive. -/
theorem day_more (x : Int) : (x + 1440) / 1440 - 1 = x / 1440 ∧ (x + 1440) % 1440 = x % 1440 := by omega
theorem rlocal {l : List Shift} (h : validB l = true) {t : Int} (h1 : 0 ≤ t) (h2 : t ≤ 144001439) : localF l t = ((t + roff t l 0 + 1440) / 1440 - 1, (t + roff t l 0 + 1440) % 1440, 0) := by
  rw [local_law h h1 h2, roff_off h h1 h2]
  obtain ⟨e1, e2⟩ := day_more (t + off l t)
  rw [e1, e2]
/-- The reference's search for the first span. -/
def rins (want : Int) : List (Shift × Int) → Int × Int
  | [] => (0, 10)
  | p :: r => if max p.1.1 (want - p.1.2) ≤ p.2 then (max p.1.1 (want - p.1.2), 0) else rins want r
theorem rins_find (want : Int) : ∀ S : List (Shift × Int), rins want S = match S.find? (hit want) with | some p => (max p.1.1 (want - p.1.2), 0) | none => (0, 10)
  | [] => rfl
  | p :: r => by
    by_cases hp : max p.1.1 (want - p.1.2) ≤ p.2
    · simp only [rins, if_pos hp]
      have h : hit want p = true := decide_eq_true hp
      simp [h]
    · simp only [rins, if_neg hp]
      have h : hit want p = false := decide_eq_false hp
      rw [List.find?_cons, h]
      exact rins_find want r
end Go.Cz.Ck
namespace Go.Cz.Ck
/-- What the reference's 'Instant' computes. -/
def rinstF (l : List Shift) (day minute : Int) : Int × Int :=
  if validB l && (decide (0 ≤ minute) && decide (minute < 1440)) then
    if 100001 < day then (0, 10) else if day < -1 then (0, 0) else rins (day * 1440 + minute) (spans l)
  else (0, 1)
theorem rinst_eq (l : List Shift) (day minute : Int) : rinstF l day minute = instF l day minute := by
  unfold rinstF
  by_cases hv : (validB l && (decide (0 ≤ minute) && decide (minute < 1440))) = true
  · rw [if_pos hv]
    have hu : instF l day minute = ((if 100001 < day then (0, 10) else match (spans l).find? (hit (max day (-2) * 1440 + minute)) with | some p => (max p.1.1 (max day (-2) * 1440 + minute - p.1.2), 0) | none => (0, 10)) : Int × Int) := by
      unfold instF
      rw [if_pos hv]
      rfl
    simp only [Bool.and_eq_true, decide_eq_true_eq] at hv
    obtain ⟨h, m1, m2⟩ := hv
    rw [hu]
    by_cases h1 : 100001 < day
    · rw [if_pos h1, if_pos h1]
    · rw [if_neg h1, if_neg h1]
      by_cases h2 : day < -1
      · rw [if_pos h2]
        have hd : max day (-2) = -2 := by omega
        rw [hd]
        have hc := valid_chain h
        rcases hS : spans l with _ | ⟨p, r⟩
        · rw [hS] at hc
          have : (0 : Int) = 144001440 := hc
          omega
        · rw [hS] at hc
          obtain ⟨g1, g2, g3, g4, g5, -⟩ := hc
          have hh : hit (-2 * 1440 + minute) p = true := decide_eq_true (by omega)
          rw [List.find?_cons, hh]
          have this : (0 : Int) = max p.1.1 (-2 * 1440 + minute - p.1.2) := by omega
          exact congrArg (fun z : Int => (z, (0 : Int))) this
      · rw [if_neg h2, rins_find]
        have hd : max day (-2) = day := by omega
        rw [hd]
  · rw [if_neg hv]
    unfold instF
    rw [if_neg hv]
end Go.Cz.Ck
namespace Go.Cz.Ck
theorem rv_len {l : List Shift} (h : ¬ (1 ≤ l.length ∧ l.length ≤ 20)) : validB l = false := by
  cases hv : validB l with
  | false => rfl
  | true => exact absurd (valid_len hv) h
/-- What the reference's loop has seen before shift k: the shift before it. -/
def lastF (l : List Shift) (k : Nat) : Int := if k = 0 then -1 else (l.getD (k - 1) (0, 0)).1
theorem lastF_succ {l : List Shift} {k : Nat} {s : Shift} (h : l[k]? = some s) : lastF l (k + 1) = s.1 := by
  unfold lastF
  rw [if_neg (by omega), Nat.add_sub_cancel, List.getD_eq_getElem?_getD, h]
  rfl
def RInv (l : List Shift) (k : Nat) : Prop := vgo 0 (-1) l = vgo k (lastF l k) (l.drop k) ∧ (0 < k → 0 ≤ lastF l k)
theorem rinv_bad {l : List Shift} {k : Nat} {s : Shift} (hi : RInv l k) (h : l[k]? = some s) (hb : shiftOk k (lastF l k) s = false) : validB l = false := by
  unfold validB; rw [hi.1, vgo_drop h, hb]; rfl
theorem rinv_ok {l : List Shift} {k : Nat} {s : Shift} (hi : RInv l k) (h : l[k]? = some s) (hb : shiftOk k (lastF l k) s = true) : RInv l (k + 1) := by
  refine ⟨by rw [hi.1, vgo_drop h, hb, lastF_succ h]; rfl, fun _ => ?_⟩
  rw [lastF_succ h]
  simp only [shiftOk, Bool.and_eq_true, instB_true] at hb
  omega
theorem rinv_end {l : List Shift} {n : Nat} (hi : RInv l n) (hn : l.length = n) (h1 : 1 ≤ n) (h2 : n ≤ 20) : validB l = true := by
  unfold validB; rw [hi.1, List.drop_of_length_le (by omega), hn]
  simp [vgo]
  omega
end Go.Cz.Ck
namespace Go.Proofs.YtakadfdnhlfijaaGreatDoor
open Go.RowKit Go.Cz Go.Cz.Ck
set_option linter.unusedSimpArgs false
set_option linter.unusedVariables false
attribute [local go_sem] bs_size bs_extract bs_append bs_toList
attribute [local irreducible] cList
/-- What is to be shown of the reference's 'Valid'. -/
def RValid : Prop := ∀ (x : Option Addr) (n c : Nat) (l : List Shift) (w : World), IsShifts w x n l →
    Calls Tryz.prog 44 #[.agg #[.slice x n c]] w fun e w' => e = .returned (.bool (validB l)) ∧ Below w.heap.size w w'
set_option maxRecDepth 5000 in
set_option maxHeartbeats 4000000 in
theorem rValid_c : RValid := by
  intro x n c l w hx
  have hln := hx.1
  have hn := hx.2.1
  obtain ⟨B, hB⟩ : ∃ B, B = w.heap.size := ⟨_, rfl⟩
  have HE : Hid (ZE w (w.alloc (.cells #[.slice x n c] 66)) B x n c l) := by
    subst hB
    have hb : Below w.heap.size w (w.alloc (.cells #[.slice x n c] 66)) := (Below.refl _ _).alloc (by omega) _
    exact ⟨hb, Bk.new _ _ _, hx.below hb⟩
  have Hln := Lib.hid hln
  clear hx hln
  by_cases h1 : n < 1
  · have He : Hid (validB l = false) := rv_len (by have := Hln.out; omega)
    go_enter Tryz.func44, Tryz.ntmps44
    go_wp2_with fail
    go_ret
    exact ⟨by rw [He.out]; rfl, by subst hB; exact HE.out.below⟩
  by_cases h2 : 20 < n
  · have He : Hid (validB l = false) := rv_len (by have := Hln.out; omega)
    go_enter Tryz.func44, Tryz.ntmps44
    go_wp2_with fail
    go_ret
    exact ⟨by rw [He.out]; rfl, by subst hB; exact HE.out.below⟩
  obtain ⟨g, off, s, rfl, hs, hg, c0, c1⟩ := HE.out.sh.at (j := 0) (by omega)
  obtain ⟨s1, s2⟩ := s
  dsimp only at c0 c1
  rw [Nat.zero_mul, Nat.add_zero] at c0
  clear c1
  by_cases hz : s1 = 0
  · subst hz
    have H0 : Hid (l[0]? = some (0, s2)) := Lib.hid hs
    have HI : Hid (RInv l 0) := ⟨rfl, fun h => by omega⟩
    clear hs
    go_enter Tryz.func44, Tryz.ntmps44
    go_wp2_with fail
    rw [← hB] at *
    clear hB c0 hg
    go_loopg [3] n (fun gk i wr => ∃ k : Nat, gk = n - k ∧ k ≤ n ∧ i = .int .i64 (k : Int) ∧ Hid (RInv l k) ∧ Hid (ZE w wr B (some ⟨g, off, none⟩) n c l))
    case atStart => exact ⟨0, rfl, Nat.zero_le _, rfl, HI, HE⟩
    case round =>
      rename_i J1 K1 hJ1 hK1
      clear HE HI
      obtain ⟨k, rfl, hk, rfl, hv, hw⟩ := hrel
      obtain ⟨-, lz, cz⟩ := hw.out.next (Below.refl _ _)
      by_cases hlt : k < n
      · obtain ⟨g', off', s, he, hs, hg, c0, c1⟩ := hw.out.sh.at hlt
        simp only [Option.some.injEq, Addr.mk.injEq] at he
        obtain ⟨rfl, rfl, -⟩ := he
        obtain ⟨s1, s2⟩ := s
        dsimp only at c0 c1
        have Hs := Lib.hid hs
        clear hs
        go_wp2_with fail
        rcases k with _ | k
        · have hs0 : s1 = 0 := by
            have h1 := Hs.out
            rw [H0.out] at h1
            simp only [Option.some.injEq, Prod.mk.injEq] at h1
            exact h1.1.symm
          subst hs0
          have HW : Hid (ZE w (wr.alloc (.cells #[.int .i64 0, .int .i64 s2] 89)).drew B (some ⟨g, off, none⟩) n c l) := (hw.out.next ((Below.refl _ _).alloc (Nat.le_refl _) _).drew).1
          by_cases hC : s2 < -840
          · have hCt : decide (s2 < -840) = true := decide_eq_true hC
            have He : Hid (validB l = false) := rinv_bad hv.out Hs.out (by simp [shiftOk, lastF, instB]; omega)
            clear hv hw Hs
            refine wp_region_can [] (List.range 29) (by kernel_rfl) (by kernel_rfl) ?_
            iterate 29 (first | (refine cl_do rfl rfl rfl rfl (fun _ _ => ?_); go_wp2_with fail) | (refine cl_yes rfl rfl rfl rfl rfl (fun _ _ => ?_); go_wp2_with fail) | (refine cl_no rfl rfl rfl ?_; go_simp))
            refine cl_nil ?_
            go_wp2_with fail
            go_ret
            exact ⟨by rw [He.out]; rfl, HW.out.below⟩
          have hCf : decide (s2 < -840) = false := decide_eq_false hC
          by_cases hD : 840 < s2
          · have hDt : decide (840 < s2) = true := decide_eq_true hD
            have He : Hid (validB l = false) := rinv_bad hv.out Hs.out (by simp [shiftOk, lastF, instB]; omega)
            clear hv hw Hs
            refine wp_region_can [] (List.range 29) (by kernel_rfl) (by kernel_rfl) ?_
            iterate 29 (first | (refine cl_do rfl rfl rfl rfl (fun _ _ => ?_); go_wp2_with fail) | (refine cl_yes rfl rfl rfl rfl rfl (fun _ _ => ?_); go_wp2_with fail) | (refine cl_no rfl rfl rfl ?_; go_simp))
            refine cl_nil ?_
            go_wp2_with fail
            go_ret
            exact ⟨by rw [He.out]; rfl, HW.out.below⟩
          have hDf : decide (840 < s2) = false := decide_eq_false hD
          have He : Hid (RInv l (0 + 1)) := rinv_ok hv.out Hs.out (by simp [shiftOk, lastF, instB]; omega)
          clear hv hw Hs
          refine wp_region_can [] (List.range 29) (by kernel_rfl) (by kernel_rfl) ?_
          iterate 29 (first | (refine cl_do rfl rfl rfl rfl (fun _ _ => ?_); go_wp2_with fail) | (refine cl_yes rfl rfl rfl rfl rfl (fun _ _ => ?_); go_wp2_with fail) | (refine cl_no rfl rfl rfl ?_; go_simp))
          refine cl_nil ?_
          go_wp2_with fail
          go_roundg (n - (0 + 1))
          case measure => omega
          case rel => exact ⟨0 + 1, rfl, by omega, by go_num, He, HW⟩
        · obtain ⟨g'', off'', p, he, hp, -, d0, -⟩ := hw.out.sh.at (j := k) (by omega)
          simp only [Option.some.injEq, Addr.mk.injEq] at he
          obtain ⟨rfl, rfl, -⟩ := he
          obtain ⟨p1, p2⟩ := p
          dsimp only at d0
          have HP : Hid (lastF l (k + 1) = p1) := Lib.hid (lastF_succ hp)
          have HQ : Hid (0 ≤ p1) := by have := hv.out.2 (by omega); rw [HP.out] at this; exact this
          clear hp
          have HW : Hid (ZE w (wr.alloc (.cells #[.int .i64 s1, .int .i64 s2] 89)).drew B (some ⟨g, off, none⟩) n c l) := (hw.out.next ((Below.refl _ _).alloc (Nat.le_refl _) _).drew).1
          by_cases hA : s1 ≤ p1
          · have hAt : decide (s1 ≤ p1) = true := decide_eq_true hA
            have He : Hid (validB l = false) := rinv_bad hv.out Hs.out (by have := HP.out; simp [shiftOk, this]; omega)
            clear hv hw Hs
            refine wp_region_can [] (List.range 29) (by kernel_rfl) (by kernel_rfl) ?_
            iterate 29 (first | (refine cl_do rfl rfl rfl rfl (fun _ _ => ?_); go_wp2_with fail) | (refine cl_yes rfl rfl rfl rfl rfl (fun _ _ => ?_); go_wp2_with fail) | (refine cl_no rfl rfl rfl ?_; go_simp))
            refine cl_nil ?_
            go_wp2_with fail
            go_ret
            exact ⟨by rw [He.out]; rfl, HW.out.below⟩
          have hAf : decide (s1 ≤ p1) = false := decide_eq_false hA
          by_cases hB : 144001439 < s1
          · have hBt : decide (144001439 < s1) = true := decide_eq_true hB
            have He : Hid (validB l = false) := rinv_bad hv.out Hs.out (by simp [shiftOk, instB]; omega)
            clear hv hw Hs
            refine wp_region_can [] (List.range 29) (by kernel_rfl) (by kernel_rfl) ?_
            iterate 29 (first | (refine cl_do rfl rfl rfl rfl (fun _ _ => ?_); go_wp2_with fail) | (refine cl_yes rfl rfl rfl rfl rfl (fun _ _ => ?_); go_wp2_with fail) | (refine cl_no rfl rfl rfl ?_; go_simp))
            refine cl_nil ?_
            go_wp2_with fail
            go_ret
            exact ⟨by rw [He.out]; rfl, HW.out.below⟩
          have hBf : decide (144001439 < s1) = false := decide_eq_false hB
          by_cases hC : s2 < -840
          · have hCt : decide (s2 < -840) = true := decide_eq_true hC
            have He : Hid (validB l = false) := rinv_bad hv.out Hs.out (by simp [shiftOk]; omega)
            clear hv hw Hs
            refine wp_region_can [] (List.range 29) (by kernel_rfl) (by kernel_rfl) ?_
            iterate 29 (first | (refine cl_do rfl rfl rfl rfl (fun _ _ => ?_); go_wp2_with fail) | (refine cl_yes rfl rfl rfl rfl rfl (fun _ _ => ?_); go_wp2_with fail) | (refine cl_no rfl rfl rfl ?_; go_simp))
            refine cl_nil ?_
            go_wp2_with fail
            go_ret
            exact ⟨by rw [He.out]; rfl, HW.out.below⟩
          have hCf : decide (s2 < -840) = false := decide_eq_false hC
          by_cases hD : 840 < s2
          · have hDt : decide (840 < s2) = true := decide_eq_true hD
            have He : Hid (validB l = false) := rinv_bad hv.out Hs.out (by simp [shiftOk]; omega)
            clear hv hw Hs
            refine wp_region_can [] (List.range 29) (by kernel_rfl) (by kernel_rfl) ?_
            iterate 29 (first | (refine cl_do rfl rfl rfl rfl (fun _ _ => ?_); go_wp2_with fail) | (refine cl_yes rfl rfl rfl rfl rfl (fun _ _ => ?_); go_wp2_with fail) | (refine cl_no rfl rfl rfl ?_; go_simp))
            refine cl_nil ?_
            go_wp2_with fail
            go_ret
            exact ⟨by rw [He.out]; rfl, HW.out.below⟩
          have hDf : decide (840 < s2) = false := decide_eq_false hD
          have He : Hid (RInv l (k + 1 + 1)) := rinv_ok hv.out Hs.out (by have := HP.out; have := HQ.out; simp [shiftOk, instB, HP.out]; omega)
          clear hv hw Hs
          refine wp_region_can [] (List.range 29) (by kernel_rfl) (by kernel_rfl) ?_
          iterate 29 (first | (refine cl_do rfl rfl rfl rfl (fun _ _ => ?_); go_wp2_with fail) | (refine cl_yes rfl rfl rfl rfl rfl (fun _ _ => ?_); go_wp2_with fail) | (refine cl_no rfl rfl rfl ?_; go_simp))
          refine cl_nil ?_
          go_wp2_with fail
          go_roundg (n - (k + 1 + 1))
          case measure => omega
          case rel => exact ⟨k + 1 + 1, rfl, by omega, by go_num, He, HW⟩
      · obtain rfl : k = n := by omega
        clear hJ1 hK1
        have He := Lib.hid (rinv_end hv.out Hln.out (by omega) (by omega))
        go_wp2_with fail
        go_ret
        exact ⟨by rw [He.out]; rfl, hw.out.below⟩
  · have He : Hid (validB l = false) := by
      have := rinv_bad (l := l) (k := 0) ⟨rfl, fun h => by omega⟩ hs (by simp [shiftOk, hz])
      exact this
    have hz1 : (s1 != 0) = true := by simp [hz]
    clear hs hz
    go_enter Tryz.func44, Tryz.ntmps44
    go_wp2_with fail
    go_ret
    exact ⟨by rw [He.out]; rfl, by subst hB; exact HE.out.below⟩
end Go.Proofs.YtakadfdnhlfijaaGreatDoor
namespace Go.Cz.Ck
theorem rins_at {want : Int} {S : List (Shift × Int)} {k : Nat} {p : Shift × Int} (h : S[k]? = some p) :
    rins want (S.drop k) = if max p.1.1 (want - p.1.2) ≤ p.2 then (max p.1.1 (want - p.1.2), 0) else rins want (S.drop (k + 1)) := by
  obtain ⟨hj, he⟩ := List.getElem?_eq_some_iff.1 h
  rw [List.drop_eq_getElem_cons hj, he]
  rfl
def RI (l : List Shift) (want : Int) (k : Nat) : Prop := rins want (spans l) = rins want ((spans l).drop k)
theorem ri_ret {l : List Shift} {want : Int} {k : Nat} {s1 s2 E T : Int} (hi : RI l want k) (h : l[k]? = some (s1, s2)) (hE : endAt l k = E) (hT : T = max s1 (want - s2)) (hle : T ≤ E) : rins want (spans l) = (T, 0) := by
  rw [hi, rins_at (spans_get l k _ h)]
  subst hT
  rw [hE]
  exact if_pos hle
theorem ri_next {l : List Shift} {want : Int} {k : Nat} {s1 s2 E T : Int} (hi : RI l want k) (h : l[k]? = some (s1, s2)) (hE : endAt l k = E) (hT : T = max s1 (want - s2)) (hle : ¬ T ≤ E) : RI l want (k + 1) := by
  unfold RI
  rw [hi, rins_at (spans_get l k _ h)]
  subst hT
  rw [hE]
  exact if_neg hle
theorem ri_end {l : List Shift} {want : Int} {k : Nat} (hi : RI l want k) (h : l.length = k) : rins want (spans l) = (0, 10) := by
  rw [hi, List.drop_of_length_le (by rw [length_spans]; omega)]
  rfl
theorem rinst_bad {l : List Shift} {day minute : Int} (h : validB l = false ∨ minute < 0 ∨ 1439 < minute) : instF l day minute = (0, 1) := by
  rw [← rinst_eq]
  unfold rinstF
  rw [if_neg]
  simp only [Bool.and_eq_true, decide_eq_true_eq]
  rintro ⟨h1, h2, h3⟩
  rcases h with h | h | h
  · rw [h1] at h; cases h
  · omega
  · omega
theorem rinst_in {l : List Shift} {day minute : Int} (h : validB l = true) (h1 : 0 ≤ minute) (h2 : minute ≤ 1439) : instF l day minute = if 100001 < day then (0, 10) else if day < -1 then (0, 0) else rins (day * 1440 + minute) (spans l) := by
  rw [← rinst_eq]
  unfold rinstF
  rw [if_pos]
  simp only [Bool.and_eq_true, decide_eq_true_eq]
  exact ⟨h, h1, by omega⟩
end Go.Cz.Ck
namespace Go.Proofs.YtakadfdnhlfijaaGreatDoor
open Go.RowKit Go.Cz Go.Cz.Ck
set_option linter.unusedSimpArgs false
set_option linter.unusedVariables false
attribute [local go_sem] bs_size bs_extract bs_append bs_toList
attribute [local irreducible] cList
set_option maxRecDepth 5000 in
set_option maxHeartbeats 4000000 in
theorem rInstant_c (x : Option Addr) (n c : Nat) (l : List Shift) (day minute : Int) (w : World) (hx : IsShifts w x n l) :
    Calls Tryz.prog 111 #[.agg #[.slice x n c], .int .i64 day, .int .i64 minute] w fun e w' => e = .returned (.tuple #[.int .i64 (instF l day minute).1, .int .i64 (instF l day minute).2]) ∧ Below w.heap.size w w' := by
  have hln := hx.1
  have hn := hx.2.1
  obtain ⟨B, hB⟩ : ∃ B, B = w.heap.size := ⟨_, rfl⟩
  have HE : Hid (ZE w (w.alloc (.cells #[.slice x n c] 66)) B x n c l) := by
    subst hB
    have hb : Below w.heap.size w (w.alloc (.cells #[.slice x n c] 66)) := (Below.refl _ _).alloc (by omega) _
    exact ⟨hb, Bk.new _ _ _, hx.below hb⟩
  have Hln := Lib.hid hln
  clear hx hln
  go_enter Tryz.func111, Tryz.ntmps111
  go_wp2_with fail
  rw [← hB] at *
  clear hB
  obtain ⟨W1, hW1⟩ : ∃ W1, W1 = w.alloc (.cells #[.slice x n c] 66) := ⟨_, rfl⟩
  rw [← hW1] at HE ⊢
  clear hW1
  go_at_call 44
  refine (rValid_c x n c l W1 HE.out.sh).mono ?_
  rintro e W2 ⟨rfl, hb⟩
  obtain ⟨HE, lz, cz⟩ := HE.out.next hb
  clear hb
  cases hv : validB l
  · have HL := Lib.hid (rinst_bad (day := day) (minute := minute) (.inl hv))
    clear hv
    go_wp2_with fail
    go_ret2
    exact ⟨by rw [HL.out]; rfl, HE.out.below⟩
  by_cases m1 : minute < 0
  · have HL := Lib.hid (rinst_bad (l := l) (day := day) (minute := minute) (.inr (.inl m1)))
    clear hv
    go_wp2_with fail
    go_ret2
    exact ⟨by rw [HL.out]; rfl, HE.out.below⟩
  by_cases m2 : 1439 < minute
  · have HL := Lib.hid (rinst_bad (l := l) (day := day) (minute := minute) (.inr (.inr m2)))
    clear hv
    go_wp2_with fail
    go_ret2
    exact ⟨by rw [HL.out]; rfl, HE.out.below⟩
  have hin := rinst_in (day := day) hv (Int.not_lt.1 m1) (Int.not_lt.1 m2)
  have m3 : 0 ≤ minute := by omega
  have m4 : minute ≤ 1439 := by omega
  by_cases d1 : 100001 < day
  · rw [if_pos d1] at hin
    have HL := Lib.hid hin
    clear hv hin
    go_wp2_with fail
    go_ret2
    exact ⟨by rw [HL.out]; rfl, HE.out.below⟩
  rw [if_neg d1] at hin
  by_cases d2 : day < -1
  · rw [if_pos d2] at hin
    have HL := Lib.hid hin
    clear hv hin
    go_wp2_with fail
    go_ret2
    exact ⟨by rw [HL.out]; rfl, HE.out.below⟩
  rw [if_neg d2] at hin
  have d3 : -1 ≤ day := by omega
  have d4 : day ≤ 100001 := by omega
  have Hv := Lib.hid hv
  obtain ⟨want, hwd⟩ : ∃ v, v = day * 1440 + minute := ⟨_, rfl⟩
  rw [← hwd] at hin
  have HI2 := Lib.hid hin
  clear hin hv
  have g1 : -1440 ≤ want := by omega
  have g2 : want ≤ 144002879 := by omega
  have Hwd := Lib.hid hwd
  clear hwd
  go_wp2_with fail
  rw [← Hwd.out]
  clear Hwd lz cz
  go_loopg [9] n (fun gk i wr => ∃ k : Nat, gk = n - k ∧ k ≤ n ∧ i = .int .i64 (k : Int) ∧ Hid (RI l want k) ∧ Hid (ZE w wr B x n c l))
  case atStart => exact ⟨0, rfl, Nat.zero_le _, rfl, rfl, HE⟩
  case round =>
    rename_i J1 K1 hJ1 hK1
    clear HE
    obtain ⟨k, rfl, hk, rfl, hv, hw⟩ := hrel
    obtain ⟨-, lz, cz⟩ := hw.out.next (Below.refl _ _)
    by_cases hlt : k < n
    · by_cases hlt1 : k + 1 < n
      · obtain ⟨g, off, s, s', rfl, i1, i2, hg, c0, c1, c2, c3⟩ := hw.out.sh.two hlt1
        have HE2 : Hid (endAt l k = s'.1 - 1) := by show _ = _; unfold endAt; rw [i2]
        have v1 := valid_all Hv.out s (List.mem_of_getElem? i1)
        have v2 := valid_all Hv.out s' (List.mem_of_getElem? i2)
        obtain ⟨s1, s2⟩ := s
        obtain ⟨s1', s2'⟩ := s'
        dsimp only at c0 c1 c2 c3 v1 v2 HE2
        obtain ⟨v11, v12, v13, v14⟩ := v1
        obtain ⟨v21, v22, v23, v24⟩ := v2
        have Hs := Lib.hid i1
        clear i1 i2 c3
        by_cases hA : want - s2 < s1
        · by_cases hle : s1 ≤ s1' - 1
          · have hI1 : s1 ≤ s1' - 1 := hle
            have He : Hid (instF l day minute = (s1, 0)) := HI2.out.trans (ri_ret hv.out Hs.out HE2.out (by omega) hle)
            clear hv HE2 Hs HI2
            go_wp2_with fail
            go_ret2
            exact ⟨by rw [He.out]; rfl, hw.out.below⟩
          · have He : Hid (RI l want (k + 1)) := ri_next hv.out Hs.out HE2.out (T := s1) (by omega) hle
            clear hv HE2 Hs
            go_wp2_with fail
            go_roundg (n - (k + 1))
            case measure => omega
            case rel => exact ⟨k + 1, rfl, by omega, by go_num, He, hw⟩
        · by_cases hle : want - s2 ≤ s1' - 1
          · have hI1 : want - s2 ≤ s1' - 1 := hle
            have He : Hid (instF l day minute = (want - s2, 0)) := HI2.out.trans (ri_ret hv.out Hs.out HE2.out (by omega) hle)
            clear hv HE2 Hs HI2
            go_wp2_with fail
            go_ret2
            exact ⟨by rw [He.out]; rfl, hw.out.below⟩
          · have He : Hid (RI l want (k + 1)) := ri_next hv.out Hs.out HE2.out (T := want - s2) (by omega) hle
            clear hv HE2 Hs
            go_wp2_with fail
            go_roundg (n - (k + 1))
            case measure => omega
            case rel => exact ⟨k + 1, rfl, by omega, by go_num, He, hw⟩
      · obtain ⟨g, off, s, rfl, i1, hg, c0, c1⟩ := hw.out.sh.at hlt
        have HE2 : Hid (endAt l k = 144001439) := by
          show _ = _
          unfold endAt
          rw [List.getElem?_eq_none (by have := Hln.out; omega)]
        have v1 := valid_all Hv.out s (List.mem_of_getElem? i1)
        obtain ⟨s1, s2⟩ := s
        dsimp only at c0 c1 v1
        obtain ⟨v11, v12, v13, v14⟩ := v1
        have Hs := Lib.hid i1
        clear i1
        by_cases hA : want - s2 < s1
        · by_cases hle : s1 ≤ 144001439
          · have hI1 : s1 ≤ 144001439 := hle
            have He : Hid (instF l day minute = (s1, 0)) := HI2.out.trans (ri_ret hv.out Hs.out HE2.out (by omega) hle)
            clear hv HE2 Hs HI2
            go_wp2_with fail
            go_ret2
            exact ⟨by rw [He.out]; rfl, hw.out.below⟩
          · exact absurd v12 hle
        · by_cases hle : want - s2 ≤ 144001439
          · have hI1 : want - s2 ≤ 144001439 := hle
            have He : Hid (instF l day minute = (want - s2, 0)) := HI2.out.trans (ri_ret hv.out Hs.out HE2.out (by omega) hle)
            clear hv HE2 Hs HI2
            go_wp2_with fail
            go_ret2
            exact ⟨by rw [He.out]; rfl, hw.out.below⟩
          · have He : Hid (RI l want (k + 1)) := ri_next hv.out Hs.out HE2.out (T := want - s2) (by omega) hle
            clear hv HE2 Hs
            go_wp2_with fail
            go_roundg (n - (k + 1))
            case measure => omega
            case rel => exact ⟨k + 1, rfl, by omega, by go_num, He, hw⟩
    · obtain rfl : k = n := by omega
      clear hJ1 hK1
      have He : Hid (instF l day minute = (0, 10)) := HI2.out.trans (ri_end hv.out Hln.out)
      clear hv HI2
      go_wp2_with fail
      go_ret2
      exact ⟨by rw [He.out]; rfl, hw.out.below⟩
end Go.Proofs.YtakadfdnhlfijaaGreatDoor
namespace Go.Proofs.YtakadfdnhlfijaaGreatDoor
open Go.RowKit Go.Cz Go.Cz.Ck Go.Cz.Wn
set_option linter.unusedSimpArgs false
set_option linter.unusedVariables false
attribute [local go_sem] bs_size bs_extract bs_append bs_toList
attribute [local irreducible] cList
set_option maxHeartbeats 4000000 in
theorem rDated_c (m : Ms) (w : World) : Calls Tryz.prog 110 #[.agg m.v] w fun e w' => e = .returned (.bool (datedB m.kind m.fr m.un m.wi)) ∧ Below w.heap.size w w' := by
  obtain ⟨id, auth, kind, target, op, name, cmp, num, ka, kn, kc, fr, un, wi⟩ := m
  dsimp only [Ms.v]
  cases h1 : dayB fr
  · have He : Hid (datedB kind fr un wi = false) := by show _ = _; simp [datedB, h1]
    have H1 := Lib.hid h1
    clear h1
    go_enter Tryz.func110, Tryz.ntmps110
    go_wp2_with fail
    go_at_call 126
    refine (rday_c fr _).mono ?_
    rintro e w1 ⟨rfl, rfl⟩
    rw [H1.out]
    go_wp2_with fail
    go_ret
    exact ⟨by rw [He.out]; rfl, (Below.refl _ _).alloc (Nat.le_refl _) _⟩
  have H1 := Lib.hid h1
  clear h1
  by_cases hu : un = -1
  · have HU : Hid ((un == -1 || (dayB un && decide (fr < un))) = true) := by show _ = _; simp [hu]
    have hu1 : (un != -1) = false := by simp [hu]
    clear hu
    by_cases hw0 : wi = 0
    · have He : Hid (datedB kind fr un wi = true) := by
        show _ = _
        simp only [datedB, H1.out, HU.out, hw0]
        simp
      have hw1 : (wi == 0) = true := by simp [hw0]
      clear hw0
      go_enter Tryz.func110, Tryz.ntmps110
      go_wp2_with fail
      go_at_call 126
      refine (rday_c fr _).mono ?_
      rintro e w1 ⟨rfl, rfl⟩
      rw [H1.out]
      go_wp2_with fail
      go_ret
      exact ⟨by rw [He.out]; rfl, (Below.refl _ _).alloc (Nat.le_refl _) _⟩
    have hw1 : (wi == 0) = false := by simp [hw0]
    by_cases hk : kind = 1
    · have hk1 : (kind == 1) = true := by simp [hk]
      by_cases hwp : 0 < wi
      · have hwp1 : decide (0 < wi) = true := decide_eq_true hwp
        obtain ⟨q, hq⟩ : ∃ q, q = decide (wi ≤ 400) := ⟨_, rfl⟩
        have He : Hid (datedB kind fr un wi = q) := by
          show _ = _
          simp only [datedB, H1.out, HU.out, hk1, hq]
          rw [decide_eq_true (show 0 ≤ wi by omega)]
          simp
        have hq2 : decide (wi ≤ 400) = q := hq.symm
        clear hw0 hk hq
        go_enter Tryz.func110, Tryz.ntmps110
        go_wp2_with fail
        go_at_call 126
        refine (rday_c fr _).mono ?_
        rintro e w1 ⟨rfl, rfl⟩
        rw [H1.out]
        go_wp2_with fail
        go_ret
        exact ⟨by rw [He.out]; rfl, (Below.refl _ _).alloc (Nat.le_refl _) _⟩
      · have He : Hid (datedB kind fr un wi = false) := by
          show _ = _
          have : decide (0 ≤ wi) = false := decide_eq_false (by omega)
          simp [datedB, this]
        have hwp1 : decide (0 < wi) = false := decide_eq_false hwp
        clear hw0 hk
        go_enter Tryz.func110, Tryz.ntmps110
        go_wp2_with fail
        go_at_call 126
        refine (rday_c fr _).mono ?_
        rintro e w1 ⟨rfl, rfl⟩
        rw [H1.out]
        go_wp2_with fail
        go_ret
        exact ⟨by rw [He.out]; rfl, (Below.refl _ _).alloc (Nat.le_refl _) _⟩
    · have hk1 : (kind == 1) = false := by simp [hk]
      have He : Hid (datedB kind fr un wi = false) := by
        show _ = _
        by_cases h : 0 ≤ wi
        · have : decide (wi ≤ 0) = false := decide_eq_false (by omega)
          simp [datedB, hk1, this]
        · have : decide (0 ≤ wi) = false := decide_eq_false (by omega)
          simp [datedB, this]
      clear hw0 hk
      go_enter Tryz.func110, Tryz.ntmps110
      go_wp2_with fail
      go_at_call 126
      refine (rday_c fr _).mono ?_
      rintro e w1 ⟨rfl, rfl⟩
      rw [H1.out]
      go_wp2_with fail
      go_ret
      exact ⟨by rw [He.out]; rfl, (Below.refl _ _).alloc (Nat.le_refl _) _⟩
  have hu1 : (un != -1) = true := by simp [hu]
  have hu2 : (un == -1) = false := by simp [hu]
  cases hd : dayB un
  · have He : Hid (datedB kind fr un wi = false) := by show _ = _; simp only [datedB, hd, hu2]; simp
    have HD := Lib.hid hd
    clear hu hd
    go_enter Tryz.func110, Tryz.ntmps110
    go_wp2_with fail
    go_at_call 126
    refine (rday_c fr _).mono ?_
    rintro e w1 ⟨rfl, rfl⟩
    rw [H1.out]
    go_wp2_with fail
    go_at_call 126
    refine (rday_c un _).mono ?_
    rintro e w1 ⟨rfl, rfl⟩
    rw [HD.out]
    go_wp2_with fail
    go_ret
    exact ⟨by rw [He.out]; rfl, (Below.refl _ _).alloc (Nat.le_refl _) _⟩
  by_cases hle : un ≤ fr
  · have He : Hid (datedB kind fr un wi = false) := by
      have : decide (fr < un) = false := decide_eq_false (by omega)
      show _ = _; simp only [datedB, this, hu2]; simp
    have HD := Lib.hid hd
    have hle1 : decide (un ≤ fr) = true := decide_eq_true hle
    clear hu hd
    go_enter Tryz.func110, Tryz.ntmps110
    go_wp2_with fail
    go_at_call 126
    refine (rday_c fr _).mono ?_
    rintro e w1 ⟨rfl, rfl⟩
    rw [H1.out]
    go_wp2_with fail
    go_at_call 126
    refine (rday_c un _).mono ?_
    rintro e w1 ⟨rfl, rfl⟩
    rw [HD.out]
    go_wp2_with fail
    go_ret
    exact ⟨by rw [He.out]; rfl, (Below.refl _ _).alloc (Nat.le_refl _) _⟩
  have HU : Hid ((un == -1 || (dayB un && decide (fr < un))) = true) := by
    show _ = _
    rw [hd, decide_eq_true (by omega)]
    simp
  have HD := Lib.hid hd
  have hle1 : decide (un ≤ fr) = false := decide_eq_false hle
  clear hu hd
  by_cases hw0 : wi = 0
  · have He : Hid (datedB kind fr un wi = true) := by
      show _ = _
      simp only [datedB, H1.out, HU.out, hw0]
      simp
    have hw1 : (wi == 0) = true := by simp [hw0]
    clear hw0
    go_enter Tryz.func110, Tryz.ntmps110
    go_wp2_with fail
    go_at_call 126
    refine (rday_c fr _).mono ?_
    rintro e w1 ⟨rfl, rfl⟩
    rw [H1.out]
    go_wp2_with fail
    go_at_call 126
    refine (rday_c un _).mono ?_
    rintro e w1 ⟨rfl, rfl⟩
    rw [HD.out]
    go_wp2_with fail
    go_ret
    exact ⟨by rw [He.out]; rfl, (Below.refl _ _).alloc (Nat.le_refl _) _⟩
  have hw1 : (wi == 0) = false := by simp [hw0]
  by_cases hk : kind = 1
  · have hk1 : (kind == 1) = true := by simp [hk]
    by_cases hwp : 0 < wi
    · have hwp1 : decide (0 < wi) = true := decide_eq_true hwp
      obtain ⟨q, hq⟩ : ∃ q, q = decide (wi ≤ 400) := ⟨_, rfl⟩
      have He : Hid (datedB kind fr un wi = q) := by
        show _ = _
        simp only [datedB, H1.out, HU.out, hk1, hq]
        rw [decide_eq_true (show 0 ≤ wi by omega)]
        simp
      have hq2 : decide (wi ≤ 400) = q := hq.symm
      clear hw0 hk hq
      go_enter Tryz.func110, Tryz.ntmps110
      go_wp2_with fail
      go_at_call 126
      refine (rday_c fr _).mono ?_
      rintro e w1 ⟨rfl, rfl⟩
      rw [H1.out]
      go_wp2_with fail
      go_at_call 126
      refine (rday_c un _).mono ?_
      rintro e w1 ⟨rfl, rfl⟩
      rw [HD.out]
      go_wp2_with fail
      go_ret
      exact ⟨by rw [He.out]; rfl, (Below.refl _ _).alloc (Nat.le_refl _) _⟩
    · have He : Hid (datedB kind fr un wi = false) := by
        show _ = _
        have : decide (0 ≤ wi) = false := decide_eq_false (by omega)
        simp [datedB, this]
      have hwp1 : decide (0 < wi) = false := decide_eq_false hwp
      clear hw0 hk
      go_enter Tryz.func110, Tryz.ntmps110
      go_wp2_with fail
      go_at_call 126
      refine (rday_c fr _).mono ?_
      rintro e w1 ⟨rfl, rfl⟩
      rw [H1.out]
      go_wp2_with fail
      go_at_call 126
      refine (rday_c un _).mono ?_
      rintro e w1 ⟨rfl, rfl⟩
      rw [HD.out]
      go_wp2_with fail
      go_ret
      exact ⟨by rw [He.out]; rfl, (Below.refl _ _).alloc (Nat.le_refl _) _⟩
  · have hk1 : (kind == 1) = false := by simp [hk]
    have He : Hid (datedB kind fr un wi = false) := by
      show _ = _
      by_cases h : 0 ≤ wi
      · have : decide (wi ≤ 0) = false := decide_eq_false (by omega)
        simp [datedB, hk1, this]
      · have : decide (0 ≤ wi) = false := decide_eq_false (by omega)
        simp [datedB, this]
    clear hw0 hk
    go_enter Tryz.func110, Tryz.ntmps110
    go_wp2_with fail
    go_at_call 126
    refine (rday_c fr _).mono ?_
    rintro e w1 ⟨rfl, rfl⟩
    rw [H1.out]
    go_wp2_with fail
    go_at_call 126
    refine (rday_c un _).mono ?_
    rintro e w1 ⟨rfl, rfl⟩
    rw [HD.out]
    go_wp2_with fail
    go_ret
    exact ⟨by rw [He.out]; rfl, (Below.refl _ _).alloc (Nat.le_refl _) _⟩
set_option maxHeartbeats 1000000 in
theorem rBegin_c (x : Option Addr) (n c : Nat) (l : List Shift) (day : Int) (w : World) (hx : IsShifts w x n l) :
    Calls Tryz.prog 92 #[.agg #[.slice x n c], .int .i64 day] w fun e w' => e = .returned (.int .i64 (beginF l day)) ∧ Below w.heap.size w w' := by
  obtain ⟨B, hB⟩ : ∃ B, B = w.heap.size := ⟨_, rfl⟩
  have HE : Hid (ZE w (w.alloc (.cells #[.slice x n c] 66)) B x n c l) := by
    subst hB
    have hb : Below w.heap.size w (w.alloc (.cells #[.slice x n c] 66)) := (Below.refl _ _).alloc (by omega) _
    exact ⟨hb, Bk.new _ _ _, hx.below hb⟩
  clear hx
  rcases hI : instF l day 0 with ⟨t, e⟩
  have HI := Lib.hid hI
  clear hI
  go_enter Tryz.func92, Tryz.ntmps92
  go_wp2_with fail
  go_at_call 111
  refine (rInstant_c x n c l day 0 _ HE.out.sh).mono ?_
  rintro e W2 ⟨rfl, hb⟩
  rw [HI.out]
  replace HE := (HE.out.next hb).1
  clear hb
  by_cases h0 : e = 0
  · have He : Hid (beginF l day = t) := by show _ = _; unfold beginF; rw [HI.out, if_pos h0]
    have h1 : (e != 0) = false := by simp [h0]
    clear HI h0
    go_wp2_with fail
    go_ret
    exact ⟨by rw [He.out]; rfl, HE.out.below⟩
  · have He : Hid (beginF l day = -1) := by show _ = _; unfold beginF; rw [HI.out, if_neg h0]
    have h1 : (e != 0) = true := by simp [h0]
    clear HI h0
    go_wp2_with fail
    go_ret
    exact ⟨by rw [He.out]; rfl, HE.out.below⟩
end Go.Proofs.YtakadfdnhlfijaaGreatDoor
namespace Go.Proofs.YtakadfdnhlfijaaGreatDoor
open Go.RowKit Go.Cz Go.Cz.Ck Go.Cz.Wn
set_option linter.unusedSimpArgs false
set_option linter.unusedVariables false
attribute [local go_sem] bs_size bs_extract bs_append bs_toList
attribute [local irreducible] cList
set_option maxHeartbeats 4000000 in
theorem rSpan_c (m : Ms) (x : Option Addr) (n c : Nat) (l : List Shift) (w : World) (hx : IsShifts w x n l) :
    Calls Tryz.prog 90 #[.agg m.v, .agg #[.slice x n c]] w fun e w' => e = .returned (.tuple #[.int .i64 (spanF l m.kind m.fr m.un m.wi).1, .int .i64 (spanF l m.kind m.fr m.un m.wi).2.1, .int .i64 (spanF l m.kind m.fr m.un m.wi).2.2]) ∧ Below w.heap.size w w' := by
  obtain ⟨B, hB⟩ : ∃ B, B = w.heap.size := ⟨_, rfl⟩
  have HE : Hid (WE w ((w.alloc (.cells m.v 46)).alloc (.cells #[.slice x n c] 66)) B m x n c l) := by rw [hB]; exact WE.start w m x n c l hx
  clear hx
  obtain ⟨id, auth, kind, target, op, name, cmp, num, ka, kn, kc, fr, un, wi⟩ := m
  dsimp only [Ms.v] at HE ⊢
  go_enter Tryz.func90, Tryz.ntmps90
  go_wp2_with fail
  rw [← hB] at *
  clear hB
  go_at_call 110
  refine (rDated_c ⟨id, auth, kind, target, op, name, cmp, num, ka, kn, kc, fr, un, wi⟩ _).mono ?_
  rintro e W2 ⟨rfl, hb⟩
  dsimp only
  (try clear z1 z2 cz c9 c10 c11)
  obtain ⟨HE, z1, z2, cz, c9, c10, c11⟩ := HE.out.next hb
  dsimp only at c9 c10 c11
  clear hb
  cases hd : datedB kind fr un wi
  · have He : Hid (spanF l kind fr un wi = (0, 0, 1)) := by show _ = _; unfold spanF; rw [hd]; rfl
    clear hd
    go_wp2_with fail
    refine bodyPost_ret (results_tmp3 rfl _ _ _) (by rfl) ⟨?_, HE.out.below⟩
    rw [He.out]
    rfl
  go_wp2_with fail
  go_at_call 44
  refine (rValid_c x n c l W2 HE.out.sh).mono ?_
  rintro e W3 ⟨rfl, hb⟩
  (try clear z1 z2 cz c9 c10 c11)
  obtain ⟨HE, z1, z2, cz, c9, c10, c11⟩ := HE.out.next hb
  dsimp only at c9 c10 c11
  clear hb
  cases hv : validB l
  · have He : Hid (spanF l kind fr un wi = (0, 0, 1)) := by show _ = _; unfold spanF; rw [hd, hv]; rfl
    clear hd hv
    go_wp2_with fail
    refine bodyPost_ret (results_tmp3 rfl _ _ _) (by rfl) ⟨?_, HE.out.below⟩
    rw [He.out]
    rfl
  have hsp : spanF l kind fr un wi = if (instF l fr 0).2 = 0 then ((instF l fr 0).1, if un < 0 then -1 else beginF l un, 0) else (0, 0, 10) := by unfold spanF; rw [hd, hv]; rfl
  obtain ⟨bf, hbf⟩ : ∃ bf, bf = beginF l fr := ⟨_, rfl⟩
  have hsp2 : spanF l kind fr un wi = if bf < 0 then (0, 0, 10) else (bf, if un < 0 then -1 else beginF l un, 0) := by
    rw [hsp, hbf]
    unfold beginF
    rcases inst_ok hv fr with ⟨h1, h2, h3⟩ | ⟨h1, h2⟩
    · rw [if_pos h1, if_pos h1, if_neg (show ¬ (instF l fr 0).1 < 0 by omega)]
    · have h3 : ¬ (instF l fr 0).2 = 0 := by omega
      rw [if_neg h3, if_neg h3, if_pos (show (-1 : Int) < 0 by omega)]
  have HB := Lib.hid hbf.symm
  have HS := Lib.hid hsp2
  clear hd hv hbf hsp hsp2
  go_wp2_with fail
  go_at_call 92
  refine (rBegin_c x n c l fr W3 HE.out.sh).mono ?_
  rintro e W4 ⟨rfl, hb⟩
  rw [HB.out]
  (try clear z1 z2 cz c9 c10 c11)
  obtain ⟨HE, z1, z2, cz, c9, c10, c11⟩ := HE.out.next hb
  dsimp only at c9 c10 c11
  clear hb
  by_cases h1 : bf < 0
  · have He : Hid (spanF l kind fr un wi = (0, 0, 10)) := by show _ = _; rw [HS.out, if_pos h1]
    have h1f : decide (bf < 0) = true := decide_eq_true h1
    go_wp2_with fail
    refine bodyPost_ret (results_tmp3 rfl _ _ _) (by rfl) ⟨?_, HE.out.below⟩
    rw [He.out]
    rfl
  have HS2 := HS.out
  rw [if_neg h1] at HS2
  have HS3 := Lib.hid HS2
  have h1f : decide (bf < 0) = false := decide_eq_false h1
  clear HS HS2
  by_cases hun : un < 0
  · have He : Hid (spanF l kind fr un wi = (bf, -1, 0)) := by show _ = _; rw [HS3.out, if_pos hun]
    have hun1 : decide (0 ≤ un) = false := decide_eq_false (by omega)
    go_wp2_with fail
    refine bodyPost_ret (results_tmp3 rfl _ _ _) (by rfl) ⟨?_, HE.out.below⟩
    rw [He.out]
    rfl
  have hun1 : decide (0 ≤ un) = true := decide_eq_true (by omega)
  obtain ⟨bu, hbu⟩ : ∃ bu, bu = beginF l un := ⟨_, rfl⟩
  have He : Hid (spanF l kind fr un wi = (bf, bu, 0)) := by show _ = _; rw [HS3.out, if_neg hun, hbu]
  have HBU := Lib.hid hbu.symm
  clear hbu
  go_wp2_with fail
  go_at_call 92
  refine (rBegin_c x n c l un W4 HE.out.sh).mono ?_
  rintro e W5 ⟨rfl, hb⟩
  rw [HBU.out]
  (try clear z1 z2 cz c9 c10 c11)
  obtain ⟨HE, z1, z2, cz, c9, c10, c11⟩ := HE.out.next hb
  dsimp only at c9 c10 c11
  clear hb
  go_wp2_with fail
  refine bodyPost_ret (results_tmp3 rfl _ _ _) (by rfl) ⟨?_, HE.out.below⟩
  rw [He.out]
  rfl
set_option maxHeartbeats 4000000 in
theorem rApplies_c (m : Ms) (x : Option Addr) (n c : Nat) (l : List Shift) (signed now : Int) (w : World) (hx : IsShifts w x n l) :
    Calls Tryz.prog 64 #[.agg m.v, .agg #[.slice x n c], .int .i64 signed, .int .i64 now] w fun e w' => e = .returned (.bool (appliesF l m.kind m.fr m.un m.wi signed now)) ∧ Below w.heap.size w w' := by
  obtain ⟨B, hB⟩ : ∃ B, B = w.heap.size := ⟨_, rfl⟩
  have HE : Hid (WE w ((w.alloc (.cells m.v 46)).alloc (.cells #[.slice x n c] 66)) B m x n c l) := by rw [hB]; exact WE.start w m x n c l hx
  clear hx
  obtain ⟨id, auth, kind, target, op, name, cmp, num, ka, kn, kc, fr, un, wi⟩ := m
  dsimp only [Ms.v] at HE ⊢
  rcases hS : spanF l kind fr un wi with ⟨S1, S2, S3⟩
  have HS := Lib.hid hS
  clear hS
  go_enter Tryz.func64, Tryz.ntmps64
  go_wp2_with fail
  rw [← hB] at *
  clear hB
  go_at_call 90
  refine (rSpan_c ⟨id, auth, kind, target, op, name, cmp, num, ka, kn, kc, fr, un, wi⟩ x n c l _ HE.out.sh).mono ?_
  rintro e W2 ⟨rfl, hb⟩
  dsimp only
  rw [HS.out]
  (try clear z1 z2 cz c9 c10 c11)
  obtain ⟨HE, z1, z2, cz, c9, c10, c11⟩ := HE.out.next hb
  dsimp only at c9 c10 c11
  clear hb
  by_cases h3 : S3 = 0
  · subst h3
    have hz := span_zero (l := l) (kind := kind) (fr := fr) (un := un) (wi := wi) (by rw [HS.out])
    obtain ⟨hdt, hv, -⟩ := hz
    obtain ⟨d1, d2, d3, d4, -, -⟩ := dated_in hdt
    have HV := Lib.hid hv
    clear hdt hv
    cases hs : instB signed
    · have He := Lib.hid (applies_no (now := now) HS.out (.inr (.inl hs)))
      have Hs := Lib.hid hs
      clear hs
      go_wp2_with fail
      go_at_call 91
      refine (rIs_c signed _).mono ?_
      rintro e W3 ⟨rfl, rfl⟩
      rw [Hs.out]
      go_wp2_with fail
      go_ret
      exact ⟨by rw [He.out]; rfl, HE.out.below⟩
    have Hs := Lib.hid hs
    cases hn : instB now
    · have He := Lib.hid (applies_no (signed := signed) HS.out (.inr (.inr (.inl hn))))
      have Hn := Lib.hid hn
      clear hs hn
      go_wp2_with fail
      go_at_call 91
      refine (rIs_c signed _).mono ?_
      rintro e W3 ⟨rfl, rfl⟩
      rw [Hs.out]
      go_wp2_with fail
      go_at_call 91
      refine (rIs_c now _).mono ?_
      rintro e W3 ⟨rfl, rfl⟩
      rw [Hn.out]
      go_wp2_with fail
      go_ret
      exact ⟨by rw [He.out]; rfl, HE.out.below⟩
    have Hn := Lib.hid hn
    clear hs hn
    by_cases h4 : now < S1
    · have He := Lib.hid (applies_no (signed := signed) HS.out (.inr (.inr (.inr (.inl h4)))))
      have h4b : decide (now < S1) = true := decide_eq_true h4
      go_wp2_with fail
      go_at_call 91
      refine (rIs_c signed _).mono ?_
      rintro e W3 ⟨rfl, rfl⟩
      rw [Hs.out]
      go_wp2_with fail
      go_at_call 91
      refine (rIs_c now _).mono ?_
      rintro e W3 ⟨rfl, rfl⟩
      rw [Hn.out]
      go_wp2_with fail
      go_ret
      exact ⟨by rw [He.out]; rfl, HE.out.below⟩
    have h4b : decide (now < S1) = false := decide_eq_false h4
    by_cases h5 : 0 ≤ S2 ∧ S2 ≤ now
    · have He := Lib.hid (applies_no (signed := signed) HS.out (.inr (.inr (.inr (.inr h5)))))
      obtain ⟨h51, h52⟩ := h5
      have h5b : decide (0 ≤ S2) = true := decide_eq_true h51
      have h5c : decide (S2 ≤ now) = true := decide_eq_true h52
      go_wp2_with fail
      go_at_call 91
      refine (rIs_c signed _).mono ?_
      rintro e W3 ⟨rfl, rfl⟩
      rw [Hs.out]
      go_wp2_with fail
      go_at_call 91
      refine (rIs_c now _).mono ?_
      rintro e W3 ⟨rfl, rfl⟩
      rw [Hn.out]
      go_wp2_with fail
      go_ret
      exact ⟨by rw [He.out]; rfl, HE.out.below⟩
    have hap := applies_ok HS.out Hs.out Hn.out (by omega) (by omega)
    have HA := Lib.hid hap
    clear hap
    have h5b : (decide (0 ≤ S2) && decide (S2 ≤ now)) = false := by simp; omega
    obtain ⟨bw, hbw⟩ : ∃ bw, bw = beginF l (fr + wi) := ⟨_, rfl⟩
    rw [← hbw] at HA
    have HBW := Lib.hid hbw.symm
    clear hbw
    by_cases h7 : 0 ≤ S2
    all_goals
      (try have h7b : decide (S2 ≤ now) = false := decide_eq_false (by omega))
      clear h5 h5b
      go_wp2_with fail
      go_at_call 91
      refine (rIs_c signed _).mono ?_
      rintro e W3 ⟨rfl, rfl⟩
      rw [Hs.out]
      go_wp2_with fail
      go_at_call 91
      refine (rIs_c now _).mono ?_
      rintro e W3 ⟨rfl, rfl⟩
      rw [Hn.out]
      go_wp2_with fail
      go_at_call 92
      refine (rBegin_c x n c l (fr + wi) _ HE.out.sh).mono ?_
      rintro e W4 ⟨rfl, hb⟩
      rw [HBW.out]
      (try clear z1 z2 cz c9 c10 c11)
      obtain ⟨HE, z1, z2, cz, c9, c10, c11⟩ := HE.out.next hb
      dsimp only at c9 c10 c11
      clear hb
      by_cases h6 : S1 ≤ signed
      · have He : Hid (appliesF l kind fr un wi signed now = true) := by show _ = _; rw [HA.out, decide_eq_true h6]; rfl
        have h6b : decide (S1 ≤ signed) = true := decide_eq_true h6
        go_wp2_with fail
        go_ret
        exact ⟨by rw [He.out]; rfl, HE.out.below⟩
      have h6b : decide (S1 ≤ signed) = false := decide_eq_false h6
      by_cases h8 : 0 ≤ bw
      · have h8b : decide (0 ≤ bw) = true := decide_eq_true h8
        obtain ⟨q, hq⟩ : ∃ q, q = decide (bw ≤ now) := ⟨_, rfl⟩
        have He : Hid (appliesF l kind fr un wi signed now = q) := by show _ = _; rw [HA.out, h6b, h8b, hq]; rfl
        have hq2 : decide (bw ≤ now) = q := hq.symm
        clear hq
        go_wp2_with fail
        go_ret
        exact ⟨by rw [He.out]; rfl, HE.out.below⟩
      · have h8b : decide (0 ≤ bw) = false := decide_eq_false h8
        have He : Hid (appliesF l kind fr un wi signed now = false) := by show _ = _; rw [HA.out, h6b, h8b]; rfl
        go_wp2_with fail
        go_ret
        exact ⟨by rw [He.out]; rfl, HE.out.below⟩
  · have He := Lib.hid (applies_no (signed := signed) (now := now) HS.out (.inl h3))
    have h3b : (S3 != 0) = true := by simp [h3]
    clear h3
    go_wp2_with fail
    go_ret
    exact ⟨by rw [He.out]; rfl, HE.out.below⟩
end Go.Proofs.YtakadfdnhlfijaaGreatDoor
