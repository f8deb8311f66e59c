/-
  Well-formed nodes.
-/
import Derived.Test.YtoeknmkephnekaaGreatDoorFmKey
import Derived.Test.YtoeknmkephnekaaGreatDoorFmIdent
import Derived.Test.YtoeknmkephnekaaGreatDoorLxA
namespace Go.Cz.Fo
open Go.Cz.Lx
theorem formed_test {f : Fm} (h : f.op = 3) : formedB f = (decide (f.kids.length = 0) && (decide (1 ≤ f.cmp) && (decide (f.cmp ≤ 6) && (nameB f.name && !keyB f.name)))) := by unfold formedB; rw [if_pos h]
theorem formed_bare {f : Fm} (h : f.op ≠ 3) (h2 : f.name ≠ [] ∨ f.cmp ≠ 0 ∨ f.num ≠ 0) : formedB f = false := by unfold formedB; rw [if_neg h, if_pos h2]
theorem formed_rest {f : Fm} (h : f.op ≠ 3) (h2 : ¬ (f.name ≠ [] ∨ f.cmp ≠ 0 ∨ f.num ≠ 0)) : formedB f = if f.op = 1 ∨ f.op = 2 then decide (f.kids.length = 0) else if f.op = 4 then decide (f.kids.length = 1) else decide ((f.op = 5 ∨ f.op = 6) ∧ 2 ≤ f.kids.length) := by unfold formedB; rw [if_neg h, if_neg h2]
end Go.Cz.Fo
namespace Go.Proofs.YtoeknmkephnekaaGreatDoor
open Go.RowKit Go.Cz Go.Cz.Lx Go.Cz.Fo
set_option linter.unusedSimpArgs false
set_option linter.unusedVariables false
attribute [local go_sem] bs_size bs_extract bs_append bs_toList
attribute [local irreducible] cList cPlan
theorem n_eq0 (N : Nat) : ((N : Int) == 0) = decide (N = 0) := by rw [Bool.eq_iff_iff]; simp
theorem n_eq1 (N : Nat) : ((N : Int) == 1) = decide (N = 1) := by rw [Bool.eq_iff_iff]; simp; omega
theorem n_le2 (N : Nat) : decide ((2 : Int) ≤ (N : Int)) = decide (2 ≤ N) := by rw [Bool.eq_iff_iff]; simp; omega
section
variable {p : Nat → Prop}
set_option maxHeartbeats 2000000 in
theorem formed_c (f : Fm) (w : World) (kv : Value) (hf : IsFm p w f kv) (hl : f.name.length ≤ 140737488355328) : Calls Tryz.prog 50 #[fval f kv] w (fun e w' => e = .returned (.bool (formedB f)) ∧ Below w.heap.size w w') := by
  obtain ⟨y, m, rfl⟩ := hf.form
  obtain ⟨N, hN⟩ : ∃ N, N = f.kids.length := ⟨_, rfl⟩
  have HN := Lib.hid hN
  rw [← hN] at hf ⊢
  have HF := Lib.hid hf
  clear hN hf
  obtain ⟨W1, hW1⟩ : ∃ W1, W1 = w.alloc (fobj f (.slice y N m)) := ⟨_, rfl⟩
  obtain ⟨bf, hbf⟩ : ∃ bf, bf = w.heap.size := ⟨_, rfl⟩
  have HO : Hid (Owns w W1 [blk bf (fobj f (.slice y N m))]) := by
    rw [hW1, hbf]
    exact Lib.hid ((Owns.start w).box _)
  have HL := Lib.hid hl
  clear hl
  obtain ⟨o, ho⟩ : ∃ o, o = f.op := ⟨_, rfl⟩
  obtain ⟨c, hc⟩ : ∃ c, c = f.cmp := ⟨_, rfl⟩
  obtain ⟨x, hx⟩ : ∃ x, x = f.num := ⟨_, rfl⟩
  obtain ⟨s, hs⟩ : ∃ s, s = f.name := ⟨_, rfl⟩
  have HX : Hid (f.op = o ∧ f.cmp = c ∧ f.num = x ∧ f.name = s) := ⟨ho.symm, hc.symm, hx.symm, hs.symm⟩
  simp only [fobj, fval] at HO hW1 ⊢
  rw [← ho, ← hc, ← hx, ← hs] at HO hW1 ⊢
  rw [← hs] at HL
  clear ho hc hx hs
  go_enter Tryz.func50, Tryz.ntmps50
  by_cases h3 : o = 3
  · subst h3
    have ht := formed_test HX.out.1
    rw [HX.out.2.1, HX.out.2.2.2, ← HN.out] at ht
    have HT := Lib.hid ht
    clear ht
    by_cases hN0 : N = 0
    · subst hN0
      by_cases h1 : 1 ≤ c
      · by_cases h6 : c ≤ 6
        · go_wp2_with fail
          rw [← hW1, ← hbf]
          clear hW1 hbf
          go_at_call 84
          refine (identF_c s (fun _ => idxAny) W1 HL.out).mono ?_
          rintro e W2 ⟨rfl, hb⟩
          rw [identB_name]
          have HO2 := Lib.hid (HO.out.below hb)
          clear hb HO
          have HO := HO2
          clear HO2
          obtain ⟨b, hb⟩ : ∃ b, b = nameB s := ⟨_, rfl⟩
          rw [← hb]
          have HB := Lib.hid hb
          clear hb
          cases b
          · have HE : Hid (formedB f = false) := by show _ = _; rw [HT.out, ← HB.out]; simp
            go_wp2_with fail
            go_ret
            exact ⟨by rw [HE.out]; rfl, HO.out.base⟩
          · have HE : Hid (formedB f = !keyB s) := by show _ = _; rw [HT.out, ← HB.out, decide_eq_true h1, decide_eq_true h6]; simp
            obtain ⟨bk, -⟩ := HO.out.blk
            have hbf := lt_of_block bk
            have cb0 := cell_of_heap bk (i := 0)
            have cb1 := cell_of_heap bk (i := 1)
            have cb2 := cell_of_heap bk (i := 2)
            have cb3 := cell_of_heap bk (i := 3)
            have cb4 := cell_of_heap bk (i := 4)
            simp only [List.getElem?_toArray, List.getElem?_cons_succ, List.getElem?_cons_zero] at cb0 cb1 cb2 cb3 cb4
            clear bk
            go_wp2_with fail
            go_at_call 67
            refine (key_c s W2).mono ?_
            rintro e W3 ⟨rfl, hb⟩
            have HB3 := Lib.hid (HO.out.base.trans (hb.mono HO.out.base.size))
            clear hb HO cb0 cb1 cb2 cb3 cb4 hbf
            obtain ⟨b, hb⟩ : ∃ b, b = keyB s := ⟨_, rfl⟩
            rw [← hb] at HE ⊢
            clear hb
            go_wp2_with fail
            go_ret
            exact ⟨by rw [HE.out]; rfl, HB3.out⟩
        · have HE : Hid (formedB f = false) := by show _ = _; rw [HT.out, decide_eq_false h6]; simp
          have h6' : ¬ c ≤ 6 := h6
          clear hW1 hbf
          go_wp2_with fail
          go_ret
          exact ⟨by rw [HE.out]; rfl, (Below.refl _ _).alloc (Nat.le_refl _) _⟩
      · have HE : Hid (formedB f = false) := by show _ = _; rw [HT.out, decide_eq_false h1]; simp
        clear hW1 hbf
        go_wp2_with fail
        go_ret
        exact ⟨by rw [HE.out]; rfl, (Below.refl _ _).alloc (Nat.le_refl _) _⟩
    · have HE : Hid (formedB f = false) := by show _ = _; rw [HT.out, decide_eq_false hN0]; rfl
      have hN1 : ((N : Int) == 0) = false := by simp; omega
      clear hN0
      clear hW1 hbf
      go_wp2_with fail
      go_ret
      exact ⟨by rw [HE.out]; rfl, (Below.refl _ _).alloc (Nat.le_refl _) _⟩
  · have h3' : (o == 3) = false := by simpa using h3
    by_cases hb : s ≠ [] ∨ c ≠ 0 ∨ x ≠ 0
    · have HE : Hid (formedB f = false) := by
        show _ = _
        exact formed_bare (by rw [HX.out.1]; exact h3) (by rw [HX.out.2.1, HX.out.2.2.1, HX.out.2.2.2]; exact hb)
      by_cases hs0 : s = []
      · subst hs0
        by_cases hc0 : c = 0
        · subst hc0
          have hx0 : (x == 0) = false := by simpa using hb
          clear hb
          clear hW1 hbf
          go_wp2_with fail
          go_ret
          exact ⟨by rw [HE.out]; rfl, (Below.refl _ _).alloc (Nat.le_refl _) _⟩
        · have hc0' : (c == 0) = false := by simpa using hc0
          clear hb hc0
          clear hW1 hbf
          go_wp2_with fail
          go_ret
          exact ⟨by rw [HE.out]; rfl, (Below.refl _ _).alloc (Nat.le_refl _) _⟩
      · have hs1 : (s == []) = false := by simpa using hs0
        have hs2 : s.isEmpty = false := by simpa using hs0
        clear hb
        clear hW1 hbf
        go_wp2_with fail
        go_ret
        exact ⟨by rw [HE.out]; rfl, (Below.refl _ _).alloc (Nat.le_refl _) _⟩
    · have hf := formed_rest (f := f) (by rw [HX.out.1]; exact h3) (by rw [HX.out.2.1, HX.out.2.2.1, HX.out.2.2.2]; exact hb)
      obtain ⟨rfl, rfl, rfl⟩ : s = [] ∧ c = 0 ∧ x = 0 := by
        refine ⟨?_, ?_, ?_⟩
        · exact Decidable.byContradiction fun h => hb (.inl h)
        · exact Decidable.byContradiction fun h => hb (.inr (.inl h))
        · exact Decidable.byContradiction fun h => hb (.inr (.inr h))
      rw [HX.out.1, ← HN.out] at hf
      have HFm := Lib.hid hf
      clear hf hb
      by_cases h1 : o = 1
      · subst h1
        have HE : Hid (formedB f = decide (N = 0)) := by show _ = _; rw [HFm.out, if_pos (.inl rfl)]
        clear hW1 hbf
        go_wp2_with fail
        go_ret
        exact ⟨congrArg (fun b => Ending.returned (Value.bool b)) (show ((N : Int) == 0) = formedB f by rw [HE.out]; exact n_eq0 _), (Below.refl _ _).alloc (Nat.le_refl _) _⟩
      have h1' : (o == 1) = false := by simpa using h1
      by_cases h2 : o = 2
      · subst h2
        have HE : Hid (formedB f = decide (N = 0)) := by show _ = _; rw [HFm.out, if_pos (.inr rfl)]
        clear hW1 hbf
        go_wp2_with fail
        go_ret
        exact ⟨congrArg (fun b => Ending.returned (Value.bool b)) (show ((N : Int) == 0) = formedB f by rw [HE.out]; exact n_eq0 _), (Below.refl _ _).alloc (Nat.le_refl _) _⟩
      have h2' : (o == 2) = false := by simpa using h2
      by_cases h4 : o = 4
      · subst h4
        have HE : Hid (formedB f = decide (N = 1)) := by show _ = _; rw [HFm.out]; rfl
        clear hW1 hbf
        go_wp2_with fail
        go_ret
        exact ⟨congrArg (fun b => Ending.returned (Value.bool b)) (show ((N : Int) == 1) = formedB f by rw [HE.out]; exact n_eq1 _), (Below.refl _ _).alloc (Nat.le_refl _) _⟩
      have h4' : (o == 4) = false := by simpa using h4
      by_cases h5 : o = 5
      · subst h5
        have HE : Hid (formedB f = decide (2 ≤ N)) := by show _ = _; rw [HFm.out]; simp
        clear hW1 hbf
        go_wp2_with fail
        go_ret
        exact ⟨congrArg (fun b => Ending.returned (Value.bool b)) (show (decide ((2 : Int) ≤ (N : Int))) = formedB f by rw [HE.out]; exact n_le2 _), (Below.refl _ _).alloc (Nat.le_refl _) _⟩
      have h5' : (o == 5) = false := by simpa using h5
      by_cases h6 : o = 6
      · subst h6
        have HE : Hid (formedB f = decide (2 ≤ N)) := by show _ = _; rw [HFm.out]; simp
        clear hW1 hbf
        go_wp2_with fail
        go_ret
        exact ⟨congrArg (fun b => Ending.returned (Value.bool b)) (show (decide ((2 : Int) ≤ (N : Int))) = formedB f by rw [HE.out]; exact n_le2 _), (Below.refl _ _).alloc (Nat.le_refl _) _⟩
      have h6' : (o == 6) = false := by simpa using h6
      have HE : Hid (formedB f = false) := by show _ = _; rw [HFm.out, if_neg (by omega), if_neg h4]; exact decide_eq_false (by omega)
      clear hW1 hbf
      go_wp2_with fail
      go_ret
      exact ⟨by rw [HE.out]; rfl, (Below.refl _ _).alloc (Nat.le_refl _) _⟩
end
end Go.Proofs.YtoeknmkephnekaaGreatDoor
