/-
  Domains and cases in memory; 'fact.Index'.
-/
import Derived.Test.YtoeknmkephnekaaGreatDoorFmRec
namespace Go.Proofs.YtoeknmkephnekaaGreatDoor
open Go.RowKit Go.Cz Go.Cz.Lx Go.Cz.Fo
set_option linter.unusedSimpArgs false
set_option linter.unusedVariables false
attribute [local go_sem] bs_size bs_extract bs_append bs_toList
attribute [local irreducible] cList cPlan
/-- A row of facts. -/
def IsD (W : World) (d : List Fact) (v : Value) : Prop := ∃ y m, v = .slice y d.length m ∧ (d = [] ∨ ∃ g off, y = some ⟨g, off, none⟩ ∧ g < W.heap.size ∧ d.length ≤ m ∧ ∀ (j : Nat) (x : Fact), d[j]? = some x →
  W.cell? ⟨g, off + j * 4, none⟩ = some (.string (bs x.name)) ∧ W.cell? ⟨g, off + j * 4 + 1, none⟩ = some (.int .i64 x.kind) ∧ W.cell? ⟨g, off + j * 4 + 2, none⟩ = some (.int .i64 x.lo) ∧ W.cell? ⟨g, off + j * 4 + 3, none⟩ = some (.int .i64 x.hi))
/-- A row of values. -/
def IsC (W : World) (c : List Int) (v : Value) : Prop := ∃ y m, v = .slice y c.length m ∧ (c = [] ∨ ∃ g off, y = some ⟨g, off, none⟩ ∧ g < W.heap.size ∧ c.length ≤ m ∧ ∀ (j : Nat) (x : Int), c[j]? = some x → W.cell? ⟨g, off + j, none⟩ = some (.int .i64 x))
abbrev xval (x : Fact) : Value := .agg #[.string (bs x.name), .int .i64 x.kind, .int .i64 x.lo, .int .i64 x.hi]
section
variable {W W' w0 : World} {d : List Fact} {c : List Int} {v : Value} {x : Fact} {u : Int} {y : Option Addr} {n m j : Nat}
theorem IsD.later (h : IsD W d v) (hb : Below W.heap.size W W') : IsD W' d v := by
  obtain ⟨y, m, h1, h2⟩ := h
  refine ⟨y, m, h1, ?_⟩
  rcases h2 with h2 | ⟨g, off, e, hg, hm, hc⟩
  · exact .inl h2
  · refine .inr ⟨g, off, e, Nat.lt_of_lt_of_le hg hb.size, hm, fun j x hj => ?_⟩
    have e2 : ∀ i, W'.cell? ⟨g, i, none⟩ = W.cell? ⟨g, i, none⟩ := fun i => hb.cell (p := ⟨g, i, none⟩) hg
    simp only [e2]
    exact hc j x hj
theorem IsD.form (h : IsD W d v) : ∃ y m, v = .slice y d.length m := by obtain ⟨y, m, h1, -⟩ := h; exact ⟨y, m, h1⟩
theorem IsD.get (h : IsD W d (.slice y n m)) (hb : Below W.heap.size W W') (hj : d[j]? = some x) : ∃ g off, y = some ⟨g, off, none⟩ ∧ g < W'.heap.size ∧
    W'.cell? ⟨g, off + j * 4, none⟩ = some (.string (bs x.name)) ∧ W'.cell? ⟨g, off + j * 4 + 1, none⟩ = some (.int .i64 x.kind) ∧ W'.cell? ⟨g, off + j * 4 + 2, none⟩ = some (.int .i64 x.lo) ∧ W'.cell? ⟨g, off + j * 4 + 3, none⟩ = some (.int .i64 x.hi) := by
  obtain ⟨y', m', h1, h2⟩ := h.later hb
  cases h1
  rcases h2 with rfl | ⟨g, off, e, hg, -, hc⟩
  · simp at hj
  · exact ⟨g, off, e, hg, hc j x hj⟩
theorem IsC.later (h : IsC W c v) (hb : Below W.heap.size W W') : IsC W' c v := by
  obtain ⟨y, m, h1, h2⟩ := h
  refine ⟨y, m, h1, ?_⟩
  rcases h2 with h2 | ⟨g, off, e, hg, hm, hc⟩
  · exact .inl h2
  · refine .inr ⟨g, off, e, Nat.lt_of_lt_of_le hg hb.size, hm, fun j x hj => ?_⟩
    have e2 : ∀ i, W'.cell? ⟨g, i, none⟩ = W.cell? ⟨g, i, none⟩ := fun i => hb.cell (p := ⟨g, i, none⟩) hg
    simp only [e2]
    exact hc j x hj
theorem IsC.form (h : IsC W c v) : ∃ y m, v = .slice y c.length m := by obtain ⟨y, m, h1, -⟩ := h; exact ⟨y, m, h1⟩
theorem IsC.get (h : IsC W c (.slice y n m)) (hb : Below W.heap.size W W') (hj : c[j]? = some u) : ∃ g off, y = some ⟨g, off, none⟩ ∧ g < W'.heap.size ∧ W'.cell? ⟨g, off + j, none⟩ = some (.int .i64 u) := by
  obtain ⟨y', m', h1, h2⟩ := h.later hb
  cases h1
  rcases h2 with rfl | ⟨g, off, e, hg, -, hc⟩
  · simp at hj
  · exact ⟨g, off, e, hg, hc j u hj⟩
end
theorem Index1_c (x : Fact) (s : Bytes) (b : Nat) (w : World) (hb : b < w.heap.size) (hc : w.cell? ⟨b, 0, none⟩ = some (.string (bs s))) (h1 : x.name.length ≤ 140737488355328) (h2 : s.length ≤ 140737488355328) :
    Calls Tryz.prog 86 #[xval x, .pointer (some ⟨b, 0, none⟩)] w fun e w' => e = .returned (.bool (decide (x.name = s))) ∧ Below w.heap.size w w' := by
  have he : Hid ((x.name == s) = decide (x.name = s)) := by show _ = _; rw [Bool.eq_iff_iff]; simp
  go_enter Tryz.func86, Tryz.ntmps86
  go_wp2_with fail
  go_ret
  exact ⟨congrArg (fun b => Ending.returned (Value.bool b)) (show (x.name == s) = decide (x.name = s) from he.out), (Below.refl _ _).alloc (Nat.le_refl _) _⟩
theorem IndexX_c (d : List Fact) (s : Bytes) (b : Nat) (v : Value) (w : World) (hd : IsD w d v) (hb : b < w.heap.size) (hc : w.cell? ⟨b, 0, none⟩ = some (.string (bs s))) (h1 : ∀ x ∈ d, x.name.length ≤ 140737488355328) (h2 : s.length ≤ 140737488355328) (hn : d.length ≤ 1000000) :
    Calls Tryz.prog 85 #[v, .func (.func 86) #[] #[.pointer (some ⟨b, 0, none⟩)]] w fun e w' => e = .returned (.int .i64 (idxD s d)) ∧ Below w.heap.size w w' := by
  obtain ⟨y, m, rfl⟩ := hd.form
  obtain ⟨N, hN⟩ : ∃ N, N = d.length := ⟨_, rfl⟩
  have HN := Lib.hid hN
  rw [← hN] at hd hn ⊢
  have HD := Lib.hid hd
  have H1 := Lib.hid h1
  have H2 := Lib.hid h2
  have HC := Lib.hid hc
  have HB := Lib.hid hb
  clear hN hd h1 hb hc
  go_enter Tryz.func85, Tryz.ntmps85
  go_wp2_with fail
  have H0 : Hid ((0 ≤ idxD s (d.drop 0) → idxD s d = idxD s (d.drop 0) + (0 : Nat)) ∧ (idxD s (d.drop 0) < 0 → idxD s d = -1)) := by
    have : -1 ≤ idxD s d := by
      clear HN HD H1
      induction d with
      | nil => simp [idxD]
      | cons a r ih => rw [idxD]; repeat' split; all_goals omega
    exact ⟨fun _ => by simp, fun h => by simp at h; omega⟩
  have HW : Hid (Below w.heap.size w w) := Lib.hid (Below.refl _ _)
  go_loopg [8] N (fun gk i wr => ∃ k : Nat, gk = N - k ∧ k ≤ N ∧ i = .int .i64 (k : Int) ∧ Hid ((0 ≤ idxD s (d.drop k) → idxD s d = idxD s (d.drop k) + (k : Nat)) ∧ (idxD s (d.drop k) < 0 → idxD s d = -1)) ∧ Hid (Below w.heap.size w wr))
  case atStart => exact ⟨0, rfl, Nat.zero_le _, rfl, H0, HW⟩
  case round =>
    rename_i J1 K1 hJ1 hK1
    clear H0 HW
    obtain ⟨k, rfl, hk, rfl, HI, HW⟩ := hrel
    by_cases hlt : k < N
    · obtain ⟨x, hx⟩ : ∃ x, d[k]? = some x := ⟨_, List.getElem?_eq_getElem (by rw [← HN.out]; exact hlt)⟩
      obtain ⟨g, off, rfl, hg, c0, c1, c2, c3⟩ := HD.out.get HW.out hx
      have hdrop : d.drop k = x :: d.drop (k + 1) := by
        obtain ⟨hk2, rfl⟩ := List.getElem?_eq_some_iff.1 hx
        exact List.drop_eq_getElem_cons hk2
      have HX : Hid (x.name.length ≤ 140737488355328) := Lib.hid (H1.out x (List.mem_of_getElem? hx))
      have HI2 : Hid ((x.name = s → idxD s d = k) ∧ (¬ x.name = s → ((0 ≤ idxD s (d.drop (k + 1)) → idxD s d = idxD s (d.drop (k + 1)) + ((k + 1 : Nat) : Int)) ∧ (idxD s (d.drop (k + 1)) < 0 → idxD s d = -1)))) := by
        have h := HI.out
        rw [hdrop, idxD] at h
        refine ⟨fun e => ?_, fun e => ?_⟩
        · rw [if_pos e] at h; have := h.1 (by omega); omega
        · rw [if_neg e] at h
          split at h
          · exact ⟨fun h' => by omega, fun _ => h.2 (by omega)⟩
          · exact ⟨fun h' => by have := h.1 (by omega); omega, fun h' => by omega⟩
      clear hx hdrop HI
      go_wp2_with fail
      refine (Index1_c x s b wr (Nat.lt_of_lt_of_le HB.out HW.out.size) (by rw [HW.out.cell (p := ⟨b, 0, none⟩) HB.out]; exact HC.out) HX.out H2.out).mono ?_
      rintro e W2 ⟨rfl, hb⟩
      have HW2 := Lib.hid (HW.out.trans (hb.mono HW.out.size))
      clear hb HW c0 c1 c2 c3
      by_cases he : x.name = s
      · have HE : Hid (idxD s d = k) := HI2.out.1 he
        rw [decide_eq_true he]
        clear hJ1 hK1
        go_wp2_with fail
        go_ret
        exact ⟨by rw [HE.out]; rfl, HW2.out⟩
      · have HI := Lib.hid (HI2.out.2 he)
        rw [decide_eq_false he]
        go_wp2_with fail
        go_roundg (N - (k + 1))
        case measure => omega
        case rel => exact ⟨k + 1, rfl, by omega, by go_num, HI, HW2⟩
    · obtain rfl : k = N := by omega
      have HE : Hid (idxD s d = -1) := by
        have h := HI.out
        rw [HN.out, List.drop_length] at h
        exact h.2 (by simp [idxD])
      clear hJ1 hK1 hlt
      go_wp2_with fail
      go_ret
      exact ⟨by rw [HE.out]; rfl, HW.out⟩
theorem Index_c (d : List Fact) (s : Bytes) (v : Value) (w : World) (hd : IsD w d v) (h1 : ∀ x ∈ d, x.name.length ≤ 140737488355328) (h2 : s.length ≤ 140737488355328) (hn : d.length ≤ 1000000) :
    Calls Tryz.prog 51 #[.agg #[v], .string (bs s)] w fun e w' => e = .returned (.int .i64 (idxD s d)) ∧ Below w.heap.size w w' := by
  obtain ⟨y, m, rfl⟩ := hd.form
  have HD := Lib.hid hd
  have H1 := Lib.hid h1
  have H2 := Lib.hid h2
  have HN := Lib.hid hn
  clear hd h1 hn
  obtain ⟨N, hN⟩ : ∃ N, N = d.length := ⟨_, rfl⟩
  rw [← hN] at HD ⊢
  clear hN
  obtain ⟨W1, hW1⟩ : ∃ W1, W1 = (w.alloc (.cells #[.slice y N m] 45)).alloc (.cells #[.string (bs s)] 9) := ⟨_, rfl⟩
  have HB : Hid (Below w.heap.size w W1 ∧ w.heap.size + 1 < W1.heap.size ∧ W1.cell? ⟨w.heap.size + 1, 0, none⟩ = some (.string (bs s))) := by
    rw [hW1]
    refine ⟨((Below.refl _ _).alloc (Nat.le_refl _) _).alloc (by simp) _, by simp, ?_⟩
    rw [cell_of_heap (new_heap (w.alloc _) _ _ (by simp))]; rfl
  go_enter Tryz.func51, Tryz.ntmps51
  go_wp2_with fail
  rw [← hW1]
  clear hW1
  refine (IndexX_c d s _ _ W1 (HD.out.later HB.out.1) HB.out.2.1 HB.out.2.2 H1.out H2.out HN.out).mono ?_
  rintro e W2 ⟨rfl, hb⟩
  have HB2 := Lib.hid (HB.out.1.trans (hb.mono HB.out.1.size))
  clear hb HB
  go_wp2_with fail
  go_ret
  exact ⟨rfl, HB2.out⟩
end Go.Proofs.YtoeknmkephnekaaGreatDoor
