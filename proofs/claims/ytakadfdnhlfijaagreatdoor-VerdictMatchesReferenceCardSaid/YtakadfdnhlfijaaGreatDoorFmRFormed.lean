/-
  The reference's 'formed'.
-/
import Derived.Test.YtakadfdnhlfijaaGreatDoorFmFormed
namespace Go.Proofs.YtakadfdnhlfijaaGreatDoor
open Go.RowKit Go.Cz Go.Cz.Lx Go.Cz.Fo
set_option linter.unusedSimpArgs false
set_option linter.unusedVariables false
attribute [local go_sem] bs_size bs_extract bs_append bs_toList
attribute [local irreducible] cList cPlan
section
variable {p : Nat → Prop}
set_option maxHeartbeats 8000000 in
theorem rformed_c (f : Fm) (w : World) (kv : Value) (hf : IsFm p w f kv) (hl : f.name.length ≤ 140737488355328) : Calls Tryz.prog 125 #[fval f kv] w (fun e w' => e = .returned (.bool (formedB f)) ∧ Below w.heap.size w w') := by
  obtain ⟨y, m, rfl⟩ := hf.form
  obtain ⟨N, hN⟩ : ∃ N, N = f.kids.length := ⟨_, rfl⟩
  have HN := Lib.hid hN
  rw [← hN] at hf ⊢
  have HF := Lib.hid hf
  clear hN hf
  obtain ⟨W1, hW1⟩ : ∃ W1, W1 = w.alloc (fobj f (.slice y N m)) := ⟨_, rfl⟩
  obtain ⟨bf, hbf⟩ : ∃ bf, bf = w.heap.size := ⟨_, rfl⟩
  have HO : Hid (Owns w W1 [blk bf (fobj f (.slice y N m))]) := by
    rw [hW1, hbf]
    exact Lib.hid ((Owns.start w).box _)
  have HL := Lib.hid hl
  clear hl
  obtain ⟨o, ho⟩ : ∃ o, o = f.op := ⟨_, rfl⟩
  obtain ⟨c, hc⟩ : ∃ c, c = f.cmp := ⟨_, rfl⟩
  obtain ⟨x, hx⟩ : ∃ x, x = f.num := ⟨_, rfl⟩
  obtain ⟨s, hs⟩ : ∃ s, s = f.name := ⟨_, rfl⟩
  have HX : Hid (f.op = o ∧ f.cmp = c ∧ f.num = x ∧ f.name = s) := ⟨ho.symm, hc.symm, hx.symm, hs.symm⟩
  simp only [fobj, fval] at HO hW1 ⊢
  rw [← ho, ← hc, ← hx, ← hs] at HO hW1 ⊢
  rw [← hs] at HL
  clear ho hc hx hs
  go_enter Tryz.func125, Tryz.ntmps125
  by_cases hs0 : s = []
  · by_cases hc0 : c = 0
    · by_cases hx0 : x = 0
      · by_cases h3 : o = 3
        · subst h3 hs0 hx0
          have HE : Hid (formedB f = false) := by show _ = _; rw [formed_test HX.out.1, HX.out.2.1, hc0]; simp
          subst hc0
          clear hW1 hbf
          go_wp2_with fail
          go_ret
          exact ⟨by rw [HE.out]; rfl, (Below.refl _ _).alloc (Nat.le_refl _) _⟩
        have hf := formed_rest (f := f) (by rw [HX.out.1]; exact h3) (by rw [HX.out.2.1, HX.out.2.2.1, HX.out.2.2.2]; simp [hs0, hc0, hx0])
        subst hs0 hc0 hx0
        have h3' : (o == 3) = false := by simpa using h3
        rw [HX.out.1, ← HN.out] at hf
        have HFm := Lib.hid hf
        clear hf
        by_cases h1 : o = 1
        · subst h1
          have HE : Hid (formedB f = decide (N = 0)) := by show _ = _; rw [HFm.out, if_pos (.inl rfl)]
          clear hW1 hbf
          go_wp2_with fail
          go_ret
          exact ⟨congrArg (fun b => Ending.returned (Value.bool b)) (show ((N : Int) == 0) = formedB f by rw [HE.out]; exact n_eq0 _), (Below.refl _ _).alloc (Nat.le_refl _) _⟩
        have h1' : (o == 1) = false := by simpa using h1
        by_cases h2 : o = 2
        · subst h2
          have HE : Hid (formedB f = decide (N = 0)) := by show _ = _; rw [HFm.out, if_pos (.inr rfl)]
          clear hW1 hbf
          go_wp2_with fail
          go_ret
          exact ⟨congrArg (fun b => Ending.returned (Value.bool b)) (show ((N : Int) == 0) = formedB f by rw [HE.out]; exact n_eq0 _), (Below.refl _ _).alloc (Nat.le_refl _) _⟩
        have h2' : (o == 2) = false := by simpa using h2
        by_cases h4 : o = 4
        · subst h4
          have HE : Hid (formedB f = decide (N = 1)) := by show _ = _; rw [HFm.out]; rfl
          clear hW1 hbf
          go_wp2_with fail
          go_ret
          exact ⟨congrArg (fun b => Ending.returned (Value.bool b)) (show ((N : Int) == 1) = formedB f by rw [HE.out]; exact n_eq1 _), (Below.refl _ _).alloc (Nat.le_refl _) _⟩
        have h4' : (o == 4) = false := by simpa using h4
        by_cases h5 : o = 5
        · subst h5
          have HE : Hid (formedB f = decide (2 ≤ N)) := by show _ = _; rw [HFm.out]; simp
          clear hW1 hbf
          go_wp2_with fail
          go_ret
          exact ⟨congrArg (fun b => Ending.returned (Value.bool b)) (show (decide ((2 : Int) ≤ (N : Int))) = formedB f by rw [HE.out]; exact n_le2 _), (Below.refl _ _).alloc (Nat.le_refl _) _⟩
        have h5' : (o == 5) = false := by simpa using h5
        by_cases h6 : o = 6
        · subst h6
          have HE : Hid (formedB f = decide (2 ≤ N)) := by show _ = _; rw [HFm.out]; simp
          clear hW1 hbf
          go_wp2_with fail
          go_ret
          exact ⟨congrArg (fun b => Ending.returned (Value.bool b)) (show (decide ((2 : Int) ≤ (N : Int))) = formedB f by rw [HE.out]; exact n_le2 _), (Below.refl _ _).alloc (Nat.le_refl _) _⟩
        have h6' : (o == 6) = false := by simpa using h6
        have HE : Hid (formedB f = false) := by show _ = _; rw [HFm.out, if_neg (by omega), if_neg h4]; exact decide_eq_false (by omega)
        clear hW1 hbf
        go_wp2_with fail
        go_ret
        exact ⟨by rw [HE.out]; rfl, (Below.refl _ _).alloc (Nat.le_refl _) _⟩
      · have hx0' : (x == 0) = false := by simpa using hx0
        subst hs0 hc0
        by_cases h3 : o = 3
        · have HE : Hid (formedB f = false) := by show _ = _; rw [formed_test (by rw [HX.out.1]; exact h3), HX.out.2.1]; simp
          subst h3
          clear hW1 hbf
          go_wp2_with fail
          go_ret
          exact ⟨by rw [HE.out]; rfl, (Below.refl _ _).alloc (Nat.le_refl _) _⟩
        have h3' : (o == 3) = false := by simpa using h3
        have hb : ([] : Bytes) ≠ [] ∨ (0 : Int) ≠ 0 ∨ x ≠ 0 := .inr (.inr hx0)
        have HE : Hid (formedB f = false) := by
          show _ = _
          exact formed_bare (by rw [HX.out.1]; exact h3) (by rw [HX.out.2.1, HX.out.2.2.1, HX.out.2.2.2]; exact hb)
        clear hb
        by_cases h1 : o = 1
        · subst h1
          clear hW1 hbf
          go_wp2_with fail
          go_ret
          exact ⟨by rw [HE.out]; rfl, (Below.refl _ _).alloc (Nat.le_refl _) _⟩
        have h1' : (o == 1) = false := by simpa using h1
        by_cases h2 : o = 2
        · subst h2
          clear hW1 hbf
          go_wp2_with fail
          go_ret
          exact ⟨by rw [HE.out]; rfl, (Below.refl _ _).alloc (Nat.le_refl _) _⟩
        have h2' : (o == 2) = false := by simpa using h2
        by_cases h4 : o = 4
        · subst h4
          clear hW1 hbf
          go_wp2_with fail
          go_ret
          exact ⟨by rw [HE.out]; rfl, (Below.refl _ _).alloc (Nat.le_refl _) _⟩
        have h4' : (o == 4) = false := by simpa using h4
        by_cases h5 : o = 5
        · subst h5
          clear hW1 hbf
          go_wp2_with fail
          go_ret
          exact ⟨by rw [HE.out]; rfl, (Below.refl _ _).alloc (Nat.le_refl _) _⟩
        have h5' : (o == 5) = false := by simpa using h5
        by_cases h6 : o = 6
        · subst h6
          clear hW1 hbf
          go_wp2_with fail
          go_ret
          exact ⟨by rw [HE.out]; rfl, (Below.refl _ _).alloc (Nat.le_refl _) _⟩
        have h6' : (o == 6) = false := by simpa using h6
        clear hW1 hbf
        go_wp2_with fail
        go_ret
        exact ⟨by rw [HE.out]; rfl, (Below.refl _ _).alloc (Nat.le_refl _) _⟩
    · have hc0' : (c == 0) = false := by simpa using hc0
      subst hs0
      by_cases h3 : o = 3
      · subst h3
        clear hc0
        have ht := formed_test HX.out.1
        rw [HX.out.2.1, HX.out.2.2.2, ← HN.out] at ht
        have HT := Lib.hid ht
        clear ht
        by_cases h1 : 1 ≤ c
        · by_cases h6 : c ≤ 6
          · by_cases hN0 : N = 0
            · subst hN0
              go_wp2_with fail
              rw [← hW1, ← hbf]
              clear hW1 hbf
              go_at_call 70
              refine (rName_c [] W1 HL.out).mono ?_
              rintro e W2 ⟨rfl, rfl⟩
              obtain ⟨b, hb⟩ : ∃ b, b = nameB [] := ⟨_, rfl⟩
              rw [← hb]
              have HB := Lib.hid hb
              clear hb
              cases b
              · have HE : Hid (formedB f = false) := by show _ = _; rw [HT.out, ← HB.out]; simp
                go_wp2_with fail
                go_ret
                exact ⟨by rw [HE.out]; rfl, HO.out.base⟩
              · have HE : Hid (formedB f = !keyB []) := by show _ = _; rw [HT.out, ← HB.out, decide_eq_true h1, decide_eq_true h6]; simp
                obtain ⟨bk, -⟩ := HO.out.blk
                have hbf := lt_of_block bk
                have cb0 := cell_of_heap bk (i := 0)
                have cb1 := cell_of_heap bk (i := 1)
                have cb2 := cell_of_heap bk (i := 2)
                have cb3 := cell_of_heap bk (i := 3)
                have cb4 := cell_of_heap bk (i := 4)
                simp only [List.getElem?_toArray, List.getElem?_cons_succ, List.getElem?_cons_zero] at cb0 cb1 cb2 cb3 cb4
                clear bk
                go_wp2_with fail
                go_at_call 137
                refine (rKey_c [] _).mono ?_
                rintro e W3 ⟨rfl, rfl⟩
                clear cb0 cb1 cb2 cb3 cb4 hbf
                obtain ⟨b, hb⟩ : ∃ b, b = keyB [] := ⟨_, rfl⟩
                rw [← hb] at HE ⊢
                clear hb
                go_wp2_with fail
                go_ret
                exact ⟨by rw [HE.out]; rfl, HO.out.base⟩
            · have HE : Hid (formedB f = false) := by show _ = _; rw [HT.out, decide_eq_false hN0]; rfl
              have hN1 : ((N : Int) == 0) = false := by simp; omega
              clear hN0
              clear hW1 hbf
              go_wp2_with fail
              go_ret
              exact ⟨by rw [HE.out]; rfl, (Below.refl _ _).alloc (Nat.le_refl _) _⟩
          · have HE : Hid (formedB f = false) := by show _ = _; rw [HT.out, decide_eq_false h6]; simp
            have h6' : ¬ c ≤ 6 := h6
            clear hW1 hbf
            go_wp2_with fail
            go_ret
            exact ⟨by rw [HE.out]; rfl, (Below.refl _ _).alloc (Nat.le_refl _) _⟩
        · have HE : Hid (formedB f = false) := by show _ = _; rw [HT.out, decide_eq_false h1]; simp
          clear hW1 hbf
          go_wp2_with fail
          go_ret
          exact ⟨by rw [HE.out]; rfl, (Below.refl _ _).alloc (Nat.le_refl _) _⟩
      have h3' : (o == 3) = false := by simpa using h3
      have hb : ([] : Bytes) ≠ [] ∨ c ≠ 0 ∨ x ≠ 0 := .inr (.inl hc0)
      clear hc0
      have HE : Hid (formedB f = false) := by
        show _ = _
        exact formed_bare (by rw [HX.out.1]; exact h3) (by rw [HX.out.2.1, HX.out.2.2.1, HX.out.2.2.2]; exact hb)
      clear hb
      by_cases h1 : o = 1
      · subst h1
        clear hW1 hbf
        go_wp2_with fail
        go_ret
        exact ⟨by rw [HE.out]; rfl, (Below.refl _ _).alloc (Nat.le_refl _) _⟩
      have h1' : (o == 1) = false := by simpa using h1
      by_cases h2 : o = 2
      · subst h2
        clear hW1 hbf
        go_wp2_with fail
        go_ret
        exact ⟨by rw [HE.out]; rfl, (Below.refl _ _).alloc (Nat.le_refl _) _⟩
      have h2' : (o == 2) = false := by simpa using h2
      by_cases h4 : o = 4
      · subst h4
        clear hW1 hbf
        go_wp2_with fail
        go_ret
        exact ⟨by rw [HE.out]; rfl, (Below.refl _ _).alloc (Nat.le_refl _) _⟩
      have h4' : (o == 4) = false := by simpa using h4
      by_cases h5 : o = 5
      · subst h5
        clear hW1 hbf
        go_wp2_with fail
        go_ret
        exact ⟨by rw [HE.out]; rfl, (Below.refl _ _).alloc (Nat.le_refl _) _⟩
      have h5' : (o == 5) = false := by simpa using h5
      by_cases h6 : o = 6
      · subst h6
        clear hW1 hbf
        go_wp2_with fail
        go_ret
        exact ⟨by rw [HE.out]; rfl, (Below.refl _ _).alloc (Nat.le_refl _) _⟩
      have h6' : (o == 6) = false := by simpa using h6
      clear hW1 hbf
      go_wp2_with fail
      go_ret
      exact ⟨by rw [HE.out]; rfl, (Below.refl _ _).alloc (Nat.le_refl _) _⟩
  · have hs1 : (s == []) = false := by simpa using hs0
    have hs2 : s.isEmpty = false := by simpa using hs0
    by_cases h3 : o = 3
    · subst h3
      have ht := formed_test HX.out.1
      rw [HX.out.2.1, HX.out.2.2.2, ← HN.out] at ht
      have HT := Lib.hid ht
      clear ht
      by_cases h1 : 1 ≤ c
      · by_cases h6 : c ≤ 6
        · by_cases hN0 : N = 0
          · subst hN0
            go_wp2_with fail
            rw [← hW1, ← hbf]
            clear hW1 hbf
            go_at_call 70
            refine (rName_c s W1 HL.out).mono ?_
            rintro e W2 ⟨rfl, rfl⟩
            obtain ⟨b, hb⟩ : ∃ b, b = nameB s := ⟨_, rfl⟩
            rw [← hb]
            have HB := Lib.hid hb
            clear hb
            cases b
            · have HE : Hid (formedB f = false) := by show _ = _; rw [HT.out, ← HB.out]; simp
              go_wp2_with fail
              go_ret
              exact ⟨by rw [HE.out]; rfl, HO.out.base⟩
            · have HE : Hid (formedB f = !keyB s) := by show _ = _; rw [HT.out, ← HB.out, decide_eq_true h1, decide_eq_true h6]; simp
              obtain ⟨bk, -⟩ := HO.out.blk
              have hbf := lt_of_block bk
              have cb0 := cell_of_heap bk (i := 0)
              have cb1 := cell_of_heap bk (i := 1)
              have cb2 := cell_of_heap bk (i := 2)
              have cb3 := cell_of_heap bk (i := 3)
              have cb4 := cell_of_heap bk (i := 4)
              simp only [List.getElem?_toArray, List.getElem?_cons_succ, List.getElem?_cons_zero] at cb0 cb1 cb2 cb3 cb4
              clear bk
              go_wp2_with fail
              go_at_call 137
              refine (rKey_c s _).mono ?_
              rintro e W3 ⟨rfl, rfl⟩
              clear cb0 cb1 cb2 cb3 cb4 hbf
              obtain ⟨b, hb⟩ : ∃ b, b = keyB s := ⟨_, rfl⟩
              rw [← hb] at HE ⊢
              clear hb
              go_wp2_with fail
              go_ret
              exact ⟨by rw [HE.out]; rfl, HO.out.base⟩
          · have HE : Hid (formedB f = false) := by show _ = _; rw [HT.out, decide_eq_false hN0]; rfl
            have hN1 : ((N : Int) == 0) = false := by simp; omega
            clear hN0
            clear hW1 hbf
            go_wp2_with fail
            go_ret
            exact ⟨by rw [HE.out]; rfl, (Below.refl _ _).alloc (Nat.le_refl _) _⟩
        · have HE : Hid (formedB f = false) := by show _ = _; rw [HT.out, decide_eq_false h6]; simp
          have h6' : ¬ c ≤ 6 := h6
          clear hW1 hbf
          go_wp2_with fail
          go_ret
          exact ⟨by rw [HE.out]; rfl, (Below.refl _ _).alloc (Nat.le_refl _) _⟩
      · have HE : Hid (formedB f = false) := by show _ = _; rw [HT.out, decide_eq_false h1]; simp
        clear hW1 hbf
        go_wp2_with fail
        go_ret
        exact ⟨by rw [HE.out]; rfl, (Below.refl _ _).alloc (Nat.le_refl _) _⟩
    have h3' : (o == 3) = false := by simpa using h3
    have hb : s ≠ [] ∨ c ≠ 0 ∨ x ≠ 0 := .inl hs0
    clear hs0
    have HE : Hid (formedB f = false) := by
      show _ = _
      exact formed_bare (by rw [HX.out.1]; exact h3) (by rw [HX.out.2.1, HX.out.2.2.1, HX.out.2.2.2]; exact hb)
    clear hb
    by_cases h1 : o = 1
    · subst h1
      clear hW1 hbf
      go_wp2_with fail
      go_ret
      exact ⟨by rw [HE.out]; rfl, (Below.refl _ _).alloc (Nat.le_refl _) _⟩
    have h1' : (o == 1) = false := by simpa using h1
    by_cases h2 : o = 2
    · subst h2
      clear hW1 hbf
      go_wp2_with fail
      go_ret
      exact ⟨by rw [HE.out]; rfl, (Below.refl _ _).alloc (Nat.le_refl _) _⟩
    have h2' : (o == 2) = false := by simpa using h2
    by_cases h4 : o = 4
    · subst h4
      clear hW1 hbf
      go_wp2_with fail
      go_ret
      exact ⟨by rw [HE.out]; rfl, (Below.refl _ _).alloc (Nat.le_refl _) _⟩
    have h4' : (o == 4) = false := by simpa using h4
    by_cases h5 : o = 5
    · subst h5
      clear hW1 hbf
      go_wp2_with fail
      go_ret
      exact ⟨by rw [HE.out]; rfl, (Below.refl _ _).alloc (Nat.le_refl _) _⟩
    have h5' : (o == 5) = false := by simpa using h5
    by_cases h6 : o = 6
    · subst h6
      clear hW1 hbf
      go_wp2_with fail
      go_ret
      exact ⟨by rw [HE.out]; rfl, (Below.refl _ _).alloc (Nat.le_refl _) _⟩
    have h6' : (o == 6) = false := by simpa using h6
    clear hW1 hbf
    go_wp2_with fail
    go_ret
    exact ⟨by rw [HE.out]; rfl, (Below.refl _ _).alloc (Nat.le_refl _) _⟩
end
end Go.Proofs.YtakadfdnhlfijaaGreatDoor
