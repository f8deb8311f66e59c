/-
  The reference lexer: 'next', 'Width', 'Lex'.
-/
import Derived.Test.YtagoefnibgobcaaGreatDoorFmRGap
import Derived.Test.YtagoefnibgobcaaGreatDoorFmPars
namespace Go.Cz.Lx
theorem while_step {C : List Nat} {l : List UInt8} {i e : Nat} {c : UInt8} (h : whileN C (l.drop i) = (e - i) + whileN C (l.drop e)) (hi : i ≤ e) (hc : l[e]? = some c) :
    (C.contains (cls c) = true → whileN C (l.drop i) = (e + 1 - i) + whileN C (l.drop (e + 1))) ∧ (C.contains (cls c) = false → whileN C (l.drop i) = e - i) := by
  obtain ⟨he, rfl⟩ := List.getElem?_eq_some_iff.1 hc
  rw [whileN_drop he] at h
  constructor
  · intro hC
    rw [if_pos hC] at h
    omega
  · intro hC
    rw [if_neg (by rw [hC]; simp)] at h
    omega
theorem word_C (c : UInt8) : wordB c = [3, 4, 5].contains (cls c) := rfl
theorem digit_C (c : UInt8) : (cls c == 4) = [4].contains (cls c) := by
  rw [Bool.eq_iff_iff]
  simp
theorem word_mid {c : UInt8} (h : (cls c == 4) = false) : wordB c = (decide (cls c = 3) || decide (cls c = 5)) := by
  have : cls c ≠ 4 := by simpa using h
  rw [word_C, Bool.eq_iff_iff]
  simp
  omega
theorem quote_cls (c : UInt8) : ((c.toNat : Int) == 34) = (cls c == 6) := all_bytes (p := fun c => ((c.toNat : Int) == 34) = (cls c == 6)) (by decide +kernel) c
theorem bang_cls (c : UInt8) : [33, 60, 62].contains c = ((cls c == 7) || (cls c == 8)) := all_bytes (p := fun c => [33, 60, 62].contains c = ((cls c == 7) || (cls c == 8))) (by decide +kernel) c
theorem symb_cls (c : UInt8) : [59, 44, 46, 58, 40, 41, 91, 93, 123, 125, 61, 60, 62, 43, 45].contains c = ((cls c == 8) || (cls c == 9)) := all_bytes (p := fun c => [59, 44, 46, 58, 40, 41, 91, 93, 123, 125, 61, 60, 62, 43, 45].contains c = ((cls c == 8) || (cls c == 9))) (by decide +kernel) c
theorem idxQ_step {l : List UInt8} {e : Nat} {c : UInt8} (hc : l[e]? = some c) : idxQ (l.drop e) = if c = 34 ∨ c = 10 then some 0 else (idxQ (l.drop (e + 1))).map (· + 1) := by
  obtain ⟨he, rfl⟩ := List.getElem?_eq_some_iff.1 hc
  rw [List.drop_eq_getElem_cons he]
  rfl
end Go.Cz.Lx
namespace Go.Proofs.YtagoefnibgobcaaGreatDoor
open Go.RowKit Go.Cz Go.Cz.Lx Go.Cz.Fo
set_option linter.unusedSimpArgs false
set_option linter.unusedVariables false
attribute [local go_sem] bs_size bs_extract bs_append bs_toList
attribute [local irreducible] cList cPlan
def rnextV : Except Nat (Tok × Nat) → Value
  | .ok (t, _) => .tuple #[tval t, .int .i64 0]
  | .error e => .tuple #[.agg #[.int .i64 0, .int .i64 0, .int .i64 0, .string ⟨#[]⟩], .int .i64 (e : Int)]
theorem rnext_res {W : World} {tmps : Array Value} {g : Nat} {v0 v1 v2 v3 : Value} (h4 : tmps.getD 4 undef = .pointer (some ⟨g, 0, none⟩)) (hb : W.heap[g]? = some (.cells #[v0, v1, v2, v3] 75 (0, 0))) :
    (results Tryz.f82 tmps).run Tryz.prog W = .ok (.tuple #[.agg #[v0, v1, v2, v3], tmps.getD 5 undef]) W := by
  have c0 : W.cell? ⟨g, 0, none⟩ = some v0 := by rw [cell_of_heap hb]; rfl
  have c1 : W.cell? ⟨g, 1, none⟩ = some v1 := by rw [cell_of_heap hb]; rfl
  have c2 : W.cell? ⟨g, 2, none⟩ = some v2 := by rw [cell_of_heap hb]; rfl
  have c3 : W.cell? ⟨g, 3, none⟩ = some v3 := by rw [cell_of_heap hb]; rfl
  have h4' : tmps[4]?.getD undef = .pointer (some ⟨g, 0, none⟩) := by simpa using h4
  simp [results, Tryz.results82, go_sem, h4', c0, c1, c2, c3]
theorem numV_snoc' (l : List UInt8) (c : UInt8) : numV (l ++ [c]) = 10 * numV l + (c.toNat - 48) := by simp [numV]
abbrev tokO (k i n : Nat) : Obj := .cells #[.int .i64 (k : Nat), .int .i64 (i : Nat), .int .i64 (n : Nat), .string ⟨#[]⟩] 75 (0, 0)
set_option maxRecDepth 100000 in
set_option maxHeartbeats 8000000 in
theorem rnext_c (l : List UInt8) (i : Nat) (w : World) (hl : l.length ≤ 20000) (hi : i < l.length) :
    Calls Tryz.prog 82 #[.string (bs l), .int .i64 (i : Int)] w fun e w' => e = .returned (rnextV (nextL l i)) ∧ Below w.heap.size w w' := by
  obtain ⟨u, hu⟩ : ∃ u, u = bs l := ⟨_, rfl⟩
  have hus : u.size = l.length := by rw [hu, bs_size]
  have hget : ∀ (i : Nat) (h : i < u.size) (h2 : i < l.length), u[i]'h = l[i]'h2 := by
    subst hu; intro i h h2; rfl
  have HU := Lib.hid hget
  have HX : Hid (∀ a b, u.extract a b = bs ((l.drop a).take (b - a))) := Lib.hid fun a b => by rw [hu]; exact bs_extract l a b
  rw [← hu]
  clear hget hu
  obtain ⟨N, hN⟩ : ∃ N, N = l.length := ⟨_, rfl⟩
  rw [← hN] at hus hl hi
  have HN := Lib.hid hN
  clear hN
  obtain ⟨bR, hbR⟩ : ∃ b, b = w.heap.size := ⟨_, rfl⟩
  obtain ⟨bT, hbT⟩ : ∃ b, b = w.heap.size + 1 := ⟨_, rfl⟩
  obtain ⟨W1, hW1⟩ : ∃ W1, W1 = (w.alloc (.cells #[.int .i64 0, .int .i64 0, .int .i64 0, .string ⟨#[]⟩] 75)).alloc (.cells #[.int .i64 0, .int .i64 (i : Int), .int .i64 0, .string ⟨#[]⟩] 75) := ⟨_, rfl⟩
  have HO : Hid (Owns w W1 [blk bT (tokO 0 i 0), blk bR tobj0]) := by
    rw [hW1, hbR, hbT]
    have h := ((Owns.start w).box tobj0).box (tokO 0 i 0)
    simp only [World.size_alloc] at h
    exact Lib.hid h
  obtain ⟨ci, hci⟩ : ∃ c, c = l[i]'(by have := HN.out; omega) := ⟨_, rfl⟩
  have kli : i < u.size := by omega
  have hcui : u[i] = ci := by rw [HU.out i kli (by have := HN.out; omega), hci]
  have Hci : Hid (l[i]? = some ci) := by show _ = _; rw [List.getElem?_eq_getElem (by have := HN.out; omega), hci]
  clear hci
  have hAt : atL l i = cls ci := by unfold atL; rw [Hci.out]
  obtain ⟨A, hA⟩ : ∃ A, A = cls ci := ⟨_, rfl⟩
  have HA : Hid (atL l i = A ∧ cls ci = A) := ⟨by rw [hAt, hA], hA.symm⟩
  clear hAt
  go_enter Tryz.func82, Tryz.ntmps82
  go_wp2_with fail
  try rw [← hW1]
  try rw [← hbT]
  try rw [← hbR]
  clear hW1 hbT hbR
  try go_at_call 104
  refine (rletter_c ci W1).mono ?_
  rintro e w1 ⟨rfl, hw⟩
  subst hw
  rw [← hA]
  clear hA
  by_cases h3 : A = 3
  · subst h3
    have H0 : Hid (whileN [3, 4, 5] (l.drop i) = (i + 1 - i) + whileN [3, 4, 5] (l.drop (i + 1))) := Lib.hid ((while_step (by omega) (Nat.le_refl i) Hci.out).1 (by rw [HA.out.2]; rfl))
    go_wp2_with fail
    clear hcui kli
    go_loopg [6] (N - (i + 1)) (fun gk x wr => ∃ e : Nat, gk = N - e ∧ i + 1 ≤ e ∧ e ≤ N ∧ x = .int .i64 (e : Int) ∧ wr = w1 ∧ Hid (whileN [3, 4, 5] (l.drop i) = (e - i) + whileN [3, 4, 5] (l.drop e)))
    case atStart => exact ⟨i + 1, rfl, Nat.le_refl _, by omega, by go_num, rfl, H0⟩
    case round =>
      rename_i J1 K1 hJ1 hK1
      clear H0
      obtain ⟨e, rfl, hie, heN, rfl, rfl, hv⟩ := hrel
      by_cases hlt : e < N
      · obtain ⟨ce, hce⟩ : ∃ c, c = l[e]'(by have := HN.out; omega) := ⟨_, rfl⟩
        have kle : e < u.size := by omega
        have hcue : u[e] = ce := by rw [HU.out e kle (by have := HN.out; omega), hce]
        have Hce : Hid (l[e]? = some ce) := by show _ = _; rw [List.getElem?_eq_getElem (by have := HN.out; omega), hce]
        clear hce
        go_wp2_with fail
        try go_at_call 105
        refine (rword_c ce wr).mono ?_
        rintro x w2 ⟨rfl, hw⟩
        subst hw
        cases hb : wordB ce
        · have HW : Hid (whileN [3, 4, 5] (l.drop i) = e - i) := Lib.hid ((while_step hv.out (by omega) Hce.out).2 (by rw [← word_C]; exact hb))
          clear hb hv hcue kle hJ1 hK1
          by_cases h24 : 24 < e - i
          · have h24' : (24 : Int) < (e : Int) - (i : Int) := by omega
            have He : Hid (nextL l i = .error 2) := by
              show _ = _
              unfold nextL
              rw [HA.out.1, HW.out]
              simp [h24]
            clear h24
            -- an error: He; Owns.store HO.out (i := 0) (.int .i64 1) : the pieces before the result is stored
            -- pieces: token, result
            obtain ⟨bk, -⟩ := HO.out.blk
            have ht := lt_of_block bk
            have ft0 := free_of_heap bk (i := 0)
            have ft1 := free_of_heap bk (i := 1)
            have ft2 := free_of_heap bk (i := 2)
            have ft3 := free_of_heap bk (i := 3)
            have ct0 := cell_of_heap bk (i := 0)
            have ct1 := cell_of_heap bk (i := 1)
            have ct2 := cell_of_heap bk (i := 2)
            have ct3 := cell_of_heap bk (i := 3)
            simp only [List.getElem?_toArray, List.getElem?_cons_succ, List.getElem?_cons_zero] at ct0 ct1 ct2 ct3
            clear bk
            obtain ⟨bk, -⟩ := HO.out.swap.blk
            have hr := lt_of_block bk
            have fr0 := free_of_heap bk (i := 0)
            have fr1 := free_of_heap bk (i := 1)
            have fr2 := free_of_heap bk (i := 2)
            have fr3 := free_of_heap bk (i := 3)
            have cr0 := cell_of_heap bk (i := 0)
            have cr1 := cell_of_heap bk (i := 1)
            have cr2 := cell_of_heap bk (i := 2)
            have cr3 := cell_of_heap bk (i := 3)
            simp only [List.getElem?_toArray, List.getElem?_cons_succ, List.getElem?_cons_zero] at cr0 cr1 cr2 cr3
            clear bk
            have ntr := Owns.ne HO.out
            have ntr' := ntr.symm
            try simp only []
            repeat (first | go_values | go_skip | go_guarded | go_step | go_upon)
            have h1 := (Owns.store HO.out (i := 0) (.int .i64 1)).swap
            have h2 := (((Owns.store h1 (i := 0) (.int .i64 0)).store (i := 1) (.int .i64 0)).store (i := 2) (.int .i64 0)).store (i := 3) (.string ⟨#[]⟩)
            exact bodyPost_ret (rnext_res rfl h2.blk.1) (by rfl) ⟨by rw [He.out]; rfl, h2.base⟩
          · have h24' : ¬ (24 : Int) < (e : Int) - (i : Int) := by omega
            have He : Hid (nextL l i = .ok (⟨1, i, 0, (l.drop i).take (e - i)⟩, e - i)) := by
              show _ = _
              unfold nextL
              rw [HA.out.1, HW.out]
              simp [h24]
            clear h24
            -- a token: He; Owns.store HO.out (i := 0) (.int .i64 1) : the pieces before the text is stored, 1, 0 : kind and number; the text from i to e
            -- pieces: token, result
            obtain ⟨bk, -⟩ := HO.out.blk
            have ht := lt_of_block bk
            have ft0 := free_of_heap bk (i := 0)
            have ft1 := free_of_heap bk (i := 1)
            have ft2 := free_of_heap bk (i := 2)
            have ft3 := free_of_heap bk (i := 3)
            have ct0 := cell_of_heap bk (i := 0)
            have ct1 := cell_of_heap bk (i := 1)
            have ct2 := cell_of_heap bk (i := 2)
            have ct3 := cell_of_heap bk (i := 3)
            simp only [List.getElem?_toArray, List.getElem?_cons_succ, List.getElem?_cons_zero] at ct0 ct1 ct2 ct3
            clear bk
            obtain ⟨bk, -⟩ := HO.out.swap.blk
            have hr := lt_of_block bk
            have fr0 := free_of_heap bk (i := 0)
            have fr1 := free_of_heap bk (i := 1)
            have fr2 := free_of_heap bk (i := 2)
            have fr3 := free_of_heap bk (i := 3)
            have cr0 := cell_of_heap bk (i := 0)
            have cr1 := cell_of_heap bk (i := 1)
            have cr2 := cell_of_heap bk (i := 2)
            have cr3 := cell_of_heap bk (i := 3)
            simp only [List.getElem?_toArray, List.getElem?_cons_succ, List.getElem?_cons_zero] at cr0 cr1 cr2 cr3
            clear bk
            have ntr := Owns.ne HO.out
            have ntr' := ntr.symm
            try simp only []
            repeat (first | go_values | go_skip | go_guarded | go_step | go_upon)
            have h1 := (Owns.store (Owns.store HO.out (i := 0) (.int .i64 1)) (i := 3) (.string (u.extract i e))).swap
            have h2 := (((Owns.store h1 (i := 0) (.int .i64 (1 : Nat))).store (i := 1) (.int .i64 (i : Nat))).store (i := 2) (.int .i64 (0 : Nat))).store (i := 3) (.string (u.extract i e))
            exact bodyPost_ret (rnext_res rfl h2.blk.1) (by rfl) ⟨by rw [He.out, HX.out]; rfl, h2.base⟩
        · have HV : Hid (whileN [3, 4, 5] (l.drop i) = (e + 1 - i) + whileN [3, 4, 5] (l.drop (e + 1))) := Lib.hid ((while_step hv.out (by omega) Hce.out).1 (by rw [← word_C]; exact hb))
          clear hb hv
          go_wp2_with fail
          go_roundg (N - (e + 1))
          case measure => omega
          case rel => exact ⟨e + 1, rfl, by omega, by omega, by go_num, rfl, HV⟩
      · have HW : Hid (whileN [3, 4, 5] (l.drop i) = e - i) := by
          show _ = _
          rw [hv.out, whileN_end (by have := HN.out; omega)]
          omega
        clear hv hJ1 hK1
        by_cases h24 : 24 < e - i
        · have h24' : (24 : Int) < (e : Int) - (i : Int) := by omega
          have He : Hid (nextL l i = .error 2) := by
            show _ = _
            unfold nextL
            rw [HA.out.1, HW.out]
            simp [h24]
          clear h24
          -- an error: He; Owns.store HO.out (i := 0) (.int .i64 1) : the pieces before the result is stored
          -- pieces: token, result
          obtain ⟨bk, -⟩ := HO.out.blk
          have ht := lt_of_block bk
          have ft0 := free_of_heap bk (i := 0)
          have ft1 := free_of_heap bk (i := 1)
          have ft2 := free_of_heap bk (i := 2)
          have ft3 := free_of_heap bk (i := 3)
          have ct0 := cell_of_heap bk (i := 0)
          have ct1 := cell_of_heap bk (i := 1)
          have ct2 := cell_of_heap bk (i := 2)
          have ct3 := cell_of_heap bk (i := 3)
          simp only [List.getElem?_toArray, List.getElem?_cons_succ, List.getElem?_cons_zero] at ct0 ct1 ct2 ct3
          clear bk
          obtain ⟨bk, -⟩ := HO.out.swap.blk
          have hr := lt_of_block bk
          have fr0 := free_of_heap bk (i := 0)
          have fr1 := free_of_heap bk (i := 1)
          have fr2 := free_of_heap bk (i := 2)
          have fr3 := free_of_heap bk (i := 3)
          have cr0 := cell_of_heap bk (i := 0)
          have cr1 := cell_of_heap bk (i := 1)
          have cr2 := cell_of_heap bk (i := 2)
          have cr3 := cell_of_heap bk (i := 3)
          simp only [List.getElem?_toArray, List.getElem?_cons_succ, List.getElem?_cons_zero] at cr0 cr1 cr2 cr3
          clear bk
          have ntr := Owns.ne HO.out
          have ntr' := ntr.symm
          try simp only []
          repeat (first | go_values | go_skip | go_guarded | go_step | go_upon)
          have h1 := (Owns.store HO.out (i := 0) (.int .i64 1)).swap
          have h2 := (((Owns.store h1 (i := 0) (.int .i64 0)).store (i := 1) (.int .i64 0)).store (i := 2) (.int .i64 0)).store (i := 3) (.string ⟨#[]⟩)
          exact bodyPost_ret (rnext_res rfl h2.blk.1) (by rfl) ⟨by rw [He.out]; rfl, h2.base⟩
        · have h24' : ¬ (24 : Int) < (e : Int) - (i : Int) := by omega
          have He : Hid (nextL l i = .ok (⟨1, i, 0, (l.drop i).take (e - i)⟩, e - i)) := by
            show _ = _
            unfold nextL
            rw [HA.out.1, HW.out]
            simp [h24]
          clear h24
          -- a token: He; Owns.store HO.out (i := 0) (.int .i64 1) : the pieces before the text is stored, 1, 0 : kind and number; the text from i to e
          -- pieces: token, result
          obtain ⟨bk, -⟩ := HO.out.blk
          have ht := lt_of_block bk
          have ft0 := free_of_heap bk (i := 0)
          have ft1 := free_of_heap bk (i := 1)
          have ft2 := free_of_heap bk (i := 2)
          have ft3 := free_of_heap bk (i := 3)
          have ct0 := cell_of_heap bk (i := 0)
          have ct1 := cell_of_heap bk (i := 1)
          have ct2 := cell_of_heap bk (i := 2)
          have ct3 := cell_of_heap bk (i := 3)
          simp only [List.getElem?_toArray, List.getElem?_cons_succ, List.getElem?_cons_zero] at ct0 ct1 ct2 ct3
          clear bk
          obtain ⟨bk, -⟩ := HO.out.swap.blk
          have hr := lt_of_block bk
          have fr0 := free_of_heap bk (i := 0)
          have fr1 := free_of_heap bk (i := 1)
          have fr2 := free_of_heap bk (i := 2)
          have fr3 := free_of_heap bk (i := 3)
          have cr0 := cell_of_heap bk (i := 0)
          have cr1 := cell_of_heap bk (i := 1)
          have cr2 := cell_of_heap bk (i := 2)
          have cr3 := cell_of_heap bk (i := 3)
          simp only [List.getElem?_toArray, List.getElem?_cons_succ, List.getElem?_cons_zero] at cr0 cr1 cr2 cr3
          clear bk
          have ntr := Owns.ne HO.out
          have ntr' := ntr.symm
          try simp only []
          repeat (first | go_values | go_skip | go_guarded | go_step | go_upon)
          have h1 := (Owns.store (Owns.store HO.out (i := 0) (.int .i64 1)) (i := 3) (.string (u.extract i e))).swap
          have h2 := (((Owns.store h1 (i := 0) (.int .i64 (1 : Nat))).store (i := 1) (.int .i64 (i : Nat))).store (i := 2) (.int .i64 (0 : Nat))).store (i := 3) (.string (u.extract i e))
          exact bodyPost_ret (rnext_res rfl h2.blk.1) (by rfl) ⟨by rw [He.out, HX.out]; rfl, h2.base⟩
  have q3 : (A == 3) = false := by simpa using h3
  by_cases h4 : A = 4
  · subst h4
    have H0 : Hid (whileN [4] (l.drop i) = (i + 1 - i) + whileN [4] (l.drop (i + 1))) := Lib.hid ((while_step (by omega) (Nat.le_refl i) Hci.out).1 (by rw [HA.out.2]; rfl))
    clear h3
    go_wp2_with fail
    try go_at_call 106
    refine (rdigit_c ci w1).mono ?_
    rintro e w2 ⟨rfl, hw⟩
    subst hw
    rw [HA.out.2]
    go_wp2_with fail
    clear hcui kli q3
    go_loopg [6] (N - (i + 1)) (fun gk x wr => ∃ e : Nat, gk = N - e ∧ i + 1 ≤ e ∧ e ≤ N ∧ x = .int .i64 (e : Int) ∧ wr = w2 ∧ Hid (whileN [4] (l.drop i) = (e - i) + whileN [4] (l.drop e)))
    case atStart => exact ⟨i + 1, rfl, Nat.le_refl _, by omega, by go_num, rfl, H0⟩
    case round =>
      rename_i J1 K1 hJ1 hK1
      clear H0
      obtain ⟨e, rfl, hie, heN, rfl, rfl, hv⟩ := hrel
      by_cases hlt : e < N
      · obtain ⟨ce, hce⟩ : ∃ c, c = l[e]'(by have := HN.out; omega) := ⟨_, rfl⟩
        have kle : e < u.size := by omega
        have hcue : u[e] = ce := by rw [HU.out e kle (by have := HN.out; omega), hce]
        have Hce : Hid (l[e]? = some ce) := by show _ = _; rw [List.getElem?_eq_getElem (by have := HN.out; omega), hce]
        clear hce
        go_wp2_with fail
        try go_at_call 106
        refine (rdigit_c ce wr).mono ?_
        rintro x w2 ⟨rfl, hw⟩
        subst hw
        cases hb : (cls ce == 4)
        · have HW : Hid (whileN [4] (l.drop i) = e - i) := Lib.hid ((while_step hv.out (by omega) Hce.out).2 (by rw [← digit_C]; exact hb))
          have HB : Hid (atL l (i + (e - i)) = cls ce ∧ wordB ce = (decide (cls ce = 3) || decide (cls ce = 5))) := ⟨by rw [show i + (e - i) = e by omega]; unfold atL; rw [Hce.out], word_mid hb⟩
          clear hb hv hJ1 hK1
          by_cases h13 : 13 < e - i
          · have h13' : (13 : Int) < (e : Int) - (i : Int) := by omega
            have He : Hid (nextL l i = .error 4) := by
              show _ = _
              unfold nextL
              rw [HA.out.1, HW.out]
              simp [h13]
            clear h13
            -- an error: He; Owns.store HO.out (i := 0) (.int .i64 2) : the pieces before the result is stored
            -- pieces: token, result
            obtain ⟨bk, -⟩ := HO.out.blk
            have ht := lt_of_block bk
            have ft0 := free_of_heap bk (i := 0)
            have ft1 := free_of_heap bk (i := 1)
            have ft2 := free_of_heap bk (i := 2)
            have ft3 := free_of_heap bk (i := 3)
            have ct0 := cell_of_heap bk (i := 0)
            have ct1 := cell_of_heap bk (i := 1)
            have ct2 := cell_of_heap bk (i := 2)
            have ct3 := cell_of_heap bk (i := 3)
            simp only [List.getElem?_toArray, List.getElem?_cons_succ, List.getElem?_cons_zero] at ct0 ct1 ct2 ct3
            clear bk
            obtain ⟨bk, -⟩ := HO.out.swap.blk
            have hr := lt_of_block bk
            have fr0 := free_of_heap bk (i := 0)
            have fr1 := free_of_heap bk (i := 1)
            have fr2 := free_of_heap bk (i := 2)
            have fr3 := free_of_heap bk (i := 3)
            have cr0 := cell_of_heap bk (i := 0)
            have cr1 := cell_of_heap bk (i := 1)
            have cr2 := cell_of_heap bk (i := 2)
            have cr3 := cell_of_heap bk (i := 3)
            simp only [List.getElem?_toArray, List.getElem?_cons_succ, List.getElem?_cons_zero] at cr0 cr1 cr2 cr3
            clear bk
            have ntr := Owns.ne HO.out
            have ntr' := ntr.symm
            try simp only []
            repeat (first | go_values | go_skip | go_guarded | go_step | go_upon)
            have h1 := (Owns.store HO.out (i := 0) (.int .i64 2)).swap
            have h2 := (((Owns.store h1 (i := 0) (.int .i64 0)).store (i := 1) (.int .i64 0)).store (i := 2) (.int .i64 0)).store (i := 3) (.string ⟨#[]⟩)
            exact bodyPost_ret (rnext_res rfl h2.blk.1) (by rfl) ⟨by rw [He.out]; rfl, h2.base⟩
          · have h13' : ¬ (13 : Int) < (e : Int) - (i : Int) := by omega
            have He0 : Hid (∀ B, cls ce = B → nextL l i = if B = 3 ∨ B = 5 then .error 4 else .ok (⟨2, i, numV ((l.drop i).take (e - i)), (l.drop i).take (e - i)⟩, e - i)) := Lib.hid fun B hB => by
              unfold nextL
              rw [HA.out.1, HW.out, HB.out.1, hB]
              simp [h13]
            have HK13 := Lib.hid h13
            clear h13
            focus
              -- pieces: token, result
              obtain ⟨bk, -⟩ := HO.out.blk
              have ht := lt_of_block bk
              have ft0 := free_of_heap bk (i := 0)
              have ft1 := free_of_heap bk (i := 1)
              have ft2 := free_of_heap bk (i := 2)
              have ft3 := free_of_heap bk (i := 3)
              have ct0 := cell_of_heap bk (i := 0)
              have ct1 := cell_of_heap bk (i := 1)
              have ct2 := cell_of_heap bk (i := 2)
              have ct3 := cell_of_heap bk (i := 3)
              simp only [List.getElem?_toArray, List.getElem?_cons_succ, List.getElem?_cons_zero] at ct0 ct1 ct2 ct3
              clear bk
              obtain ⟨bk, -⟩ := HO.out.swap.blk
              have hr := lt_of_block bk
              have fr0 := free_of_heap bk (i := 0)
              have fr1 := free_of_heap bk (i := 1)
              have fr2 := free_of_heap bk (i := 2)
              have fr3 := free_of_heap bk (i := 3)
              have cr0 := cell_of_heap bk (i := 0)
              have cr1 := cell_of_heap bk (i := 1)
              have cr2 := cell_of_heap bk (i := 2)
              have cr3 := cell_of_heap bk (i := 3)
              simp only [List.getElem?_toArray, List.getElem?_cons_succ, List.getElem?_cons_zero] at cr0 cr1 cr2 cr3
              clear bk
              have ntr := Owns.ne HO.out
              have ntr' := ntr.symm
              go_wp2_with fail
              clear ht ft0 ft1 ft2 ft3 ct0 ct1 ct2 ct3 hr fr0 fr1 fr2 fr3 cr0 cr1 cr2 cr3 ntr ntr'
            try go_at_call 105
            refine (rword_c ce _).mono ?_
            rintro x w3 ⟨rfl, hw⟩
            rw [HB.out.2]
            by_cases hB : cls ce = 3 ∨ cls ce = 5
            · have He : Hid (nextL l i = .error 4) := by show _ = _; rw [He0.out _ rfl, if_pos hB]
              have hq : (decide (cls ce = 3) || decide (cls ce = 5)) = true := by simpa using hB
              rw [hq]
              have HO4 : Hid (Owns w w3 [blk bT (tokO 2 i 0), blk bR tobj0]) := by
                rw [hw]
                exact Lib.hid (HO.out.store (i := 0) (.int .i64 2))
              replace HO := HO4
              clear HO4 hB hq hw
              -- an error: He; HO.out : the pieces before the result is stored
              -- pieces: token, result
              obtain ⟨bk, -⟩ := HO.out.blk
              have ht := lt_of_block bk
              have ft0 := free_of_heap bk (i := 0)
              have ft1 := free_of_heap bk (i := 1)
              have ft2 := free_of_heap bk (i := 2)
              have ft3 := free_of_heap bk (i := 3)
              have ct0 := cell_of_heap bk (i := 0)
              have ct1 := cell_of_heap bk (i := 1)
              have ct2 := cell_of_heap bk (i := 2)
              have ct3 := cell_of_heap bk (i := 3)
              simp only [List.getElem?_toArray, List.getElem?_cons_succ, List.getElem?_cons_zero] at ct0 ct1 ct2 ct3
              clear bk
              obtain ⟨bk, -⟩ := HO.out.swap.blk
              have hr := lt_of_block bk
              have fr0 := free_of_heap bk (i := 0)
              have fr1 := free_of_heap bk (i := 1)
              have fr2 := free_of_heap bk (i := 2)
              have fr3 := free_of_heap bk (i := 3)
              have cr0 := cell_of_heap bk (i := 0)
              have cr1 := cell_of_heap bk (i := 1)
              have cr2 := cell_of_heap bk (i := 2)
              have cr3 := cell_of_heap bk (i := 3)
              simp only [List.getElem?_toArray, List.getElem?_cons_succ, List.getElem?_cons_zero] at cr0 cr1 cr2 cr3
              clear bk
              have ntr := Owns.ne HO.out
              have ntr' := ntr.symm
              try simp only []
              repeat (first | go_values | go_skip | go_guarded | go_step | go_upon)
              have h1 := (HO.out).swap
              have h2 := (((Owns.store h1 (i := 0) (.int .i64 0)).store (i := 1) (.int .i64 0)).store (i := 2) (.int .i64 0)).store (i := 3) (.string ⟨#[]⟩)
              exact bodyPost_ret (rnext_res rfl h2.blk.1) (by rfl) ⟨by rw [He.out]; rfl, h2.base⟩
            · have He : Hid (nextL l i = .ok (⟨2, i, numV ((l.drop i).take (e - i)), (l.drop i).take (e - i)⟩, e - i)) := by show _ = _; rw [He0.out _ rfl, if_neg hB]
              have hq : (decide (cls ce = 3) || decide (cls ce = 5)) = false := by simpa using hB
              rw [hq]
              have HO4 : Hid (Owns w w3 [blk bT (tokO 2 i 0), blk bR tobj0]) := by
                rw [hw]
                exact Lib.hid (HO.out.store (i := 0) (.int .i64 2))
              clear hB hq hw He0 HB HO
              go_wp2_with fail
              -- HO4 : the token (number) in the world w3; from the loop over its digits on
              have HDg : Hid (∀ (j : Nat) (c : UInt8), i ≤ j → j < e → l[j]? = some c → 48 ≤ c.toNat ∧ c.toNat ≤ 57) := Lib.hid fun j c h1 h2 h3 => by
                have hm : c ∈ (l.drop i).take (whileN [4] (l.drop i)) := by
                  rw [HW.out]
                  refine List.mem_of_getElem? (i := j - i) ?_
                  rw [List.getElem?_take, if_pos (by omega), List.getElem?_drop, show i + (j - i) = j by omega]
                  exact h3
                have := whileN_mem hm
                exact cls_digit (by simpa using this)
              have HNv : Hid (∀ j, i ≤ j → j ≤ e → numV ((l.drop i).take (j - i)) < 10000000000000) := Lib.hid fun j h1 h2 => by
                by_cases h0 : j = i
                · rw [h0, Nat.sub_self, List.take_zero]; decide
                · refine (atoi_num (fun c hc => ?_) ?_ ?_).2
                  · obtain ⟨q, hq⟩ := List.getElem?_of_mem hc
                    rw [List.getElem?_take] at hq
                    split at hq
                    · rw [List.getElem?_drop] at hq
                      exact HDg.out (i + q) c (by omega) (by omega) hq
                    · cases hq
                  · rw [List.length_take, List.length_drop]; have := HN.out; omega
                  · rw [List.length_take, List.length_drop]; have := HK13.out; omega
              have H0 : Hid (Owns w w3 [blk bT (tokO 2 i (numV ((l.drop i).take (i - i)))), blk bR tobj0]) := by
                rw [Nat.sub_self]
                exact HO4
              clear HO4
              go_loopg [9] (e - i) (fun gk x wr => ∃ j : Nat, gk = e - j ∧ i ≤ j ∧ j ≤ e ∧ x = .int .i64 (j : Int) ∧ Hid (Owns w wr [blk bT (tokO 2 i (numV ((l.drop i).take (j - i)))), blk bR tobj0]))
              case atStart => exact ⟨i, rfl, Nat.le_refl _, by omega, rfl, H0⟩
              case round =>
                rename_i J2 K2 hJ2 hK2
                clear H0
                obtain ⟨j, rfl, hij, hje, rfl, HO⟩ := hrel
                have hnv := HNv.out j hij hje
                obtain ⟨n, hn⟩ : ∃ n, n = numV ((l.drop i).take (j - i)) := ⟨_, rfl⟩
                rw [← hn] at HO hnv
                by_cases hlt : j < e
                · obtain ⟨cj, hcj⟩ : ∃ c, c = l[j]'(by have := HN.out; omega) := ⟨_, rfl⟩
                  have klj : j < u.size := by omega
                  have hcuj : u[j] = cj := by rw [HU.out j klj (by have := HN.out; omega), hcj]
                  have Hcj : Hid (l[j]? = some cj) := by show _ = _; rw [List.getElem?_eq_getElem (by have := HN.out; omega), hcj]
                  clear hcj
                  obtain ⟨hd1, hd2⟩ := HDg.out j cj hij hlt Hcj.out
                  have HNn : Hid (numV ((l.drop i).take (j + 1 - i)) = 10 * n + (cj.toNat - 48)) := by
                    show _ = _
                    rw [show j + 1 - i = (j - i) + 1 by omega, List.take_add_one, List.getElem?_drop, show i + (j - i) = j by omega, Hcj.out]
                    simp only [Option.toList_some]
                    rw [numV_snoc', ← hn]
                  clear hn
                  go_wp2_with fail
                  refine wp_region_can [] (List.range 11) (by decide +kernel) (by decide +kernel) ?_
                  replace HO := Lib.hid HO.out.drew
                  generalize hWd : World.drew _ = w5 at HO ⊢
                  clear hWd
                  have HO5 : Hid (Owns w (w5.setCell ⟨bT, 2, none⟩ (.int .i64 (10 * (n : Int) + ((cj.toNat : Int) - 48)))) [blk bT (tokO 2 i (numV ((l.drop i).take (j + 1 - i)))), blk bR tobj0]) := by
                    have h := HO.out.store (i := 2) (.int .i64 (10 * (n : Int) + ((cj.toNat : Int) - 48)))
                    rw [show (10 * (n : Int) + ((cj.toNat : Int) - 48)) = ((numV ((l.drop i).take (j + 1 - i)) : Nat) : Int) by rw [HNn.out]; omega] at h ⊢
                    exact Lib.hid h
                  focus
                    obtain ⟨bk, -⟩ := HO.out.blk
                    have ht := lt_of_block bk
                    have ft0 := free_of_heap bk (i := 0)
                    have ft1 := free_of_heap bk (i := 1)
                    have ft2 := free_of_heap bk (i := 2)
                    have ft3 := free_of_heap bk (i := 3)
                    have ct0 := cell_of_heap bk (i := 0)
                    have ct1 := cell_of_heap bk (i := 1)
                    have ct2 := cell_of_heap bk (i := 2)
                    have ct3 := cell_of_heap bk (i := 3)
                    simp only [List.getElem?_toArray, List.getElem?_cons_succ, List.getElem?_cons_zero] at ct0 ct1 ct2 ct3
                    clear bk
                    iterate 11 (refine cl_do rfl rfl rfl (by first | rfl | simp [okB, lenV, plainV, Act.eval]) (fun _ _ => ?_); go_wp2_with fail)
                    refine cl_nil ?_
                    go_wp2_with fail
                    go_roundg (e - (j + 1))
                    case measure => omega
                    case rel => exact ⟨j + 1, rfl, by omega, by omega, by go_num, HO5⟩
                · obtain rfl : j = e := by omega
                  rw [← hn] at He
                  clear hn hJ2 hK2 hlt
                  -- pieces: token, result
                  obtain ⟨bk, -⟩ := HO.out.blk
                  have ht := lt_of_block bk
                  have ft0 := free_of_heap bk (i := 0)
                  have ft1 := free_of_heap bk (i := 1)
                  have ft2 := free_of_heap bk (i := 2)
                  have ft3 := free_of_heap bk (i := 3)
                  have ct0 := cell_of_heap bk (i := 0)
                  have ct1 := cell_of_heap bk (i := 1)
                  have ct2 := cell_of_heap bk (i := 2)
                  have ct3 := cell_of_heap bk (i := 3)
                  simp only [List.getElem?_toArray, List.getElem?_cons_succ, List.getElem?_cons_zero] at ct0 ct1 ct2 ct3
                  clear bk
                  obtain ⟨bk, -⟩ := HO.out.swap.blk
                  have hr := lt_of_block bk
                  have fr0 := free_of_heap bk (i := 0)
                  have fr1 := free_of_heap bk (i := 1)
                  have fr2 := free_of_heap bk (i := 2)
                  have fr3 := free_of_heap bk (i := 3)
                  have cr0 := cell_of_heap bk (i := 0)
                  have cr1 := cell_of_heap bk (i := 1)
                  have cr2 := cell_of_heap bk (i := 2)
                  have cr3 := cell_of_heap bk (i := 3)
                  simp only [List.getElem?_toArray, List.getElem?_cons_succ, List.getElem?_cons_zero] at cr0 cr1 cr2 cr3
                  clear bk
                  have ntr := Owns.ne HO.out
                  have ntr' := ntr.symm
                  try simp only []
                  repeat (first | go_values | go_skip | go_guarded | go_step | go_upon)
                  have h1 := (Owns.store (HO.out) (i := 3) (.string (u.extract i j))).swap
                  have h2 := (((Owns.store h1 (i := 0) (.int .i64 (2 : Nat))).store (i := 1) (.int .i64 (i : Nat))).store (i := 2) (.int .i64 (n : Nat))).store (i := 3) (.string (u.extract i j))
                  exact bodyPost_ret (rnext_res rfl h2.blk.1) (by rfl) ⟨by rw [He.out, HX.out]; rfl, h2.base⟩
        · have HV : Hid (whileN [4] (l.drop i) = (e + 1 - i) + whileN [4] (l.drop (e + 1))) := Lib.hid ((while_step hv.out (by omega) Hce.out).1 (by rw [← digit_C]; exact hb))
          clear hb hv
          go_wp2_with fail
          go_roundg (N - (e + 1))
          case measure => omega
          case rel => exact ⟨e + 1, rfl, by omega, by omega, by go_num, rfl, HV⟩
      · have HW : Hid (whileN [4] (l.drop i) = e - i) := by
          show _ = _
          rw [hv.out, whileN_end (by have := HN.out; omega)]
          omega
        have HB : Hid (atL l (i + (e - i)) = 0) := Lib.hid (atL_none (by have := HN.out; omega))
        clear hv hJ1 hK1
        by_cases h13 : 13 < e - i
        · have h13' : (13 : Int) < (e : Int) - (i : Int) := by omega
          have He : Hid (nextL l i = .error 4) := by
            show _ = _
            unfold nextL
            rw [HA.out.1, HW.out]
            simp [h13]
          clear h13
          -- an error: He; Owns.store HO.out (i := 0) (.int .i64 2) : the pieces before the result is stored
          -- pieces: token, result
          obtain ⟨bk, -⟩ := HO.out.blk
          have ht := lt_of_block bk
          have ft0 := free_of_heap bk (i := 0)
          have ft1 := free_of_heap bk (i := 1)
          have ft2 := free_of_heap bk (i := 2)
          have ft3 := free_of_heap bk (i := 3)
          have ct0 := cell_of_heap bk (i := 0)
          have ct1 := cell_of_heap bk (i := 1)
          have ct2 := cell_of_heap bk (i := 2)
          have ct3 := cell_of_heap bk (i := 3)
          simp only [List.getElem?_toArray, List.getElem?_cons_succ, List.getElem?_cons_zero] at ct0 ct1 ct2 ct3
          clear bk
          obtain ⟨bk, -⟩ := HO.out.swap.blk
          have hr := lt_of_block bk
          have fr0 := free_of_heap bk (i := 0)
          have fr1 := free_of_heap bk (i := 1)
          have fr2 := free_of_heap bk (i := 2)
          have fr3 := free_of_heap bk (i := 3)
          have cr0 := cell_of_heap bk (i := 0)
          have cr1 := cell_of_heap bk (i := 1)
          have cr2 := cell_of_heap bk (i := 2)
          have cr3 := cell_of_heap bk (i := 3)
          simp only [List.getElem?_toArray, List.getElem?_cons_succ, List.getElem?_cons_zero] at cr0 cr1 cr2 cr3
          clear bk
          have ntr := Owns.ne HO.out
          have ntr' := ntr.symm
          try simp only []
          repeat (first | go_values | go_skip | go_guarded | go_step | go_upon)
          have h1 := (Owns.store HO.out (i := 0) (.int .i64 2)).swap
          have h2 := (((Owns.store h1 (i := 0) (.int .i64 0)).store (i := 1) (.int .i64 0)).store (i := 2) (.int .i64 0)).store (i := 3) (.string ⟨#[]⟩)
          exact bodyPost_ret (rnext_res rfl h2.blk.1) (by rfl) ⟨by rw [He.out]; rfl, h2.base⟩
        · have h13' : ¬ (13 : Int) < (e : Int) - (i : Int) := by omega
          have He : Hid (nextL l i = .ok (⟨2, i, numV ((l.drop i).take (e - i)), (l.drop i).take (e - i)⟩, e - i)) := by
            show _ = _
            unfold nextL
            rw [HA.out.1, HW.out, HB.out]
            simp [h13]
          have HK13 := Lib.hid h13
          clear h13
          obtain ⟨w3, hw3⟩ : ∃ w3, w3 = wr.setCell ⟨bT, 0, none⟩ (.int .i64 2) := ⟨_, rfl⟩
          have HO4 : Hid (Owns w w3 [blk bT (tokO 2 i 0), blk bR tobj0]) := by
            rw [hw3]
            exact Lib.hid (HO.out.store (i := 0) (.int .i64 2))
          focus
            -- pieces: token, result
            obtain ⟨bk, -⟩ := HO.out.blk
            have ht := lt_of_block bk
            have ft0 := free_of_heap bk (i := 0)
            have ft1 := free_of_heap bk (i := 1)
            have ft2 := free_of_heap bk (i := 2)
            have ft3 := free_of_heap bk (i := 3)
            have ct0 := cell_of_heap bk (i := 0)
            have ct1 := cell_of_heap bk (i := 1)
            have ct2 := cell_of_heap bk (i := 2)
            have ct3 := cell_of_heap bk (i := 3)
            simp only [List.getElem?_toArray, List.getElem?_cons_succ, List.getElem?_cons_zero] at ct0 ct1 ct2 ct3
            clear bk
            obtain ⟨bk, -⟩ := HO.out.swap.blk
            have hr := lt_of_block bk
            have fr0 := free_of_heap bk (i := 0)
            have fr1 := free_of_heap bk (i := 1)
            have fr2 := free_of_heap bk (i := 2)
            have fr3 := free_of_heap bk (i := 3)
            have cr0 := cell_of_heap bk (i := 0)
            have cr1 := cell_of_heap bk (i := 1)
            have cr2 := cell_of_heap bk (i := 2)
            have cr3 := cell_of_heap bk (i := 3)
            simp only [List.getElem?_toArray, List.getElem?_cons_succ, List.getElem?_cons_zero] at cr0 cr1 cr2 cr3
            clear bk
            have ntr := Owns.ne HO.out
            have ntr' := ntr.symm
            go_wp2_with fail
            rw [← hw3]
            clear hw3
            clear ht ft0 ft1 ft2 ft3 ct0 ct1 ct2 ct3 hr fr0 fr1 fr2 fr3 cr0 cr1 cr2 cr3 ntr ntr'
          clear HO HB
          -- HO4 : the token (number) in the world w3; from the loop over its digits on
          have HDg : Hid (∀ (j : Nat) (c : UInt8), i ≤ j → j < e → l[j]? = some c → 48 ≤ c.toNat ∧ c.toNat ≤ 57) := Lib.hid fun j c h1 h2 h3 => by
            have hm : c ∈ (l.drop i).take (whileN [4] (l.drop i)) := by
              rw [HW.out]
              refine List.mem_of_getElem? (i := j - i) ?_
              rw [List.getElem?_take, if_pos (by omega), List.getElem?_drop, show i + (j - i) = j by omega]
              exact h3
            have := whileN_mem hm
            exact cls_digit (by simpa using this)
          have HNv : Hid (∀ j, i ≤ j → j ≤ e → numV ((l.drop i).take (j - i)) < 10000000000000) := Lib.hid fun j h1 h2 => by
            by_cases h0 : j = i
            · rw [h0, Nat.sub_self, List.take_zero]; decide
            · refine (atoi_num (fun c hc => ?_) ?_ ?_).2
              · obtain ⟨q, hq⟩ := List.getElem?_of_mem hc
                rw [List.getElem?_take] at hq
                split at hq
                · rw [List.getElem?_drop] at hq
                  exact HDg.out (i + q) c (by omega) (by omega) hq
                · cases hq
              · rw [List.length_take, List.length_drop]; have := HN.out; omega
              · rw [List.length_take, List.length_drop]; have := HK13.out; omega
          have H0 : Hid (Owns w w3 [blk bT (tokO 2 i (numV ((l.drop i).take (i - i)))), blk bR tobj0]) := by
            rw [Nat.sub_self]
            exact HO4
          clear HO4
          go_loopg [9] (e - i) (fun gk x wr => ∃ j : Nat, gk = e - j ∧ i ≤ j ∧ j ≤ e ∧ x = .int .i64 (j : Int) ∧ Hid (Owns w wr [blk bT (tokO 2 i (numV ((l.drop i).take (j - i)))), blk bR tobj0]))
          case atStart => exact ⟨i, rfl, Nat.le_refl _, by omega, rfl, H0⟩
          case round =>
            rename_i J2 K2 hJ2 hK2
            clear H0
            obtain ⟨j, rfl, hij, hje, rfl, HO⟩ := hrel
            have hnv := HNv.out j hij hje
            obtain ⟨n, hn⟩ : ∃ n, n = numV ((l.drop i).take (j - i)) := ⟨_, rfl⟩
            rw [← hn] at HO hnv
            by_cases hlt : j < e
            · obtain ⟨cj, hcj⟩ : ∃ c, c = l[j]'(by have := HN.out; omega) := ⟨_, rfl⟩
              have klj : j < u.size := by omega
              have hcuj : u[j] = cj := by rw [HU.out j klj (by have := HN.out; omega), hcj]
              have Hcj : Hid (l[j]? = some cj) := by show _ = _; rw [List.getElem?_eq_getElem (by have := HN.out; omega), hcj]
              clear hcj
              obtain ⟨hd1, hd2⟩ := HDg.out j cj hij hlt Hcj.out
              have HNn : Hid (numV ((l.drop i).take (j + 1 - i)) = 10 * n + (cj.toNat - 48)) := by
                show _ = _
                rw [show j + 1 - i = (j - i) + 1 by omega, List.take_add_one, List.getElem?_drop, show i + (j - i) = j by omega, Hcj.out]
                simp only [Option.toList_some]
                rw [numV_snoc', ← hn]
              clear hn
              go_wp2_with fail
              refine wp_region_can [] (List.range 11) (by decide +kernel) (by decide +kernel) ?_
              replace HO := Lib.hid HO.out.drew
              generalize hWd : World.drew _ = w5 at HO ⊢
              clear hWd
              have HO5 : Hid (Owns w (w5.setCell ⟨bT, 2, none⟩ (.int .i64 (10 * (n : Int) + ((cj.toNat : Int) - 48)))) [blk bT (tokO 2 i (numV ((l.drop i).take (j + 1 - i)))), blk bR tobj0]) := by
                have h := HO.out.store (i := 2) (.int .i64 (10 * (n : Int) + ((cj.toNat : Int) - 48)))
                rw [show (10 * (n : Int) + ((cj.toNat : Int) - 48)) = ((numV ((l.drop i).take (j + 1 - i)) : Nat) : Int) by rw [HNn.out]; omega] at h ⊢
                exact Lib.hid h
              focus
                obtain ⟨bk, -⟩ := HO.out.blk
                have ht := lt_of_block bk
                have ft0 := free_of_heap bk (i := 0)
                have ft1 := free_of_heap bk (i := 1)
                have ft2 := free_of_heap bk (i := 2)
                have ft3 := free_of_heap bk (i := 3)
                have ct0 := cell_of_heap bk (i := 0)
                have ct1 := cell_of_heap bk (i := 1)
                have ct2 := cell_of_heap bk (i := 2)
                have ct3 := cell_of_heap bk (i := 3)
                simp only [List.getElem?_toArray, List.getElem?_cons_succ, List.getElem?_cons_zero] at ct0 ct1 ct2 ct3
                clear bk
                iterate 11 (refine cl_do rfl rfl rfl (by first | rfl | simp [okB, lenV, plainV, Act.eval]) (fun _ _ => ?_); go_wp2_with fail)
                refine cl_nil ?_
                go_wp2_with fail
                go_roundg (e - (j + 1))
                case measure => omega
                case rel => exact ⟨j + 1, rfl, by omega, by omega, by go_num, HO5⟩
            · obtain rfl : j = e := by omega
              rw [← hn] at He
              clear hn hJ2 hK2 hlt
              -- pieces: token, result
              obtain ⟨bk, -⟩ := HO.out.blk
              have ht := lt_of_block bk
              have ft0 := free_of_heap bk (i := 0)
              have ft1 := free_of_heap bk (i := 1)
              have ft2 := free_of_heap bk (i := 2)
              have ft3 := free_of_heap bk (i := 3)
              have ct0 := cell_of_heap bk (i := 0)
              have ct1 := cell_of_heap bk (i := 1)
              have ct2 := cell_of_heap bk (i := 2)
              have ct3 := cell_of_heap bk (i := 3)
              simp only [List.getElem?_toArray, List.getElem?_cons_succ, List.getElem?_cons_zero] at ct0 ct1 ct2 ct3
              clear bk
              obtain ⟨bk, -⟩ := HO.out.swap.blk
              have hr := lt_of_block bk
              have fr0 := free_of_heap bk (i := 0)
              have fr1 := free_of_heap bk (i := 1)
              have fr2 := free_of_heap bk (i := 2)
              have fr3 := free_of_heap bk (i := 3)
              have cr0 := cell_of_heap bk (i := 0)
              have cr1 := cell_of_heap bk (i := 1)
              have cr2 := cell_of_heap bk (i := 2)
              have cr3 := cell_of_heap bk (i := 3)
              simp only [List.getElem?_toArray, List.getElem?_cons_succ, List.getElem?_cons_zero] at cr0 cr1 cr2 cr3
              clear bk
              have ntr := Owns.ne HO.out
              have ntr' := ntr.symm
              try simp only []
              repeat (first | go_values | go_skip | go_guarded | go_step | go_upon)
              have h1 := (Owns.store (HO.out) (i := 3) (.string (u.extract i j))).swap
              have h2 := (((Owns.store h1 (i := 0) (.int .i64 (2 : Nat))).store (i := 1) (.int .i64 (i : Nat))).store (i := 2) (.int .i64 (n : Nat))).store (i := 3) (.string (u.extract i j))
              exact bodyPost_ret (rnext_res rfl h2.blk.1) (by rfl) ⟨by rw [He.out, HX.out]; rfl, h2.base⟩
  have q4 : (A == 4) = false := by simpa using h4
  go_wp2_with fail
  try go_at_call 106
  refine (rdigit_c ci w1).mono ?_
  rintro e w2 ⟨rfl, hw⟩
  subst hw
  rw [HA.out.2]
  have hq := quote_cls ci
  rw [HA.out.2] at hq
  by_cases h6 : A = 6
  · subst h6
    have hq' : ((ci.toNat : Int) == 34) = true := hq
    have H0 : Hid (idxQ (l.drop (i + 1)) = (idxQ (l.drop (i + 1))).map (· + (i + 1 - (i + 1)))) := by
      show _ = _
      rw [Nat.sub_self]
      cases idxQ (l.drop (i + 1)) <;> rfl
    have Hn : Hid (nextL l i = match idxQ (l.drop (i + 1)) with | none => .error 6 | some n => if (l.drop (i + 1))[n]? = some 10 then .error 6 else if 400 < n then .error 2 else .ok (⟨3, i, 0, (l.drop (i + 1)).take n⟩, n + 2)) := by
      show _ = _
      unfold nextL
      rw [HA.out.1]
      rfl
    clear h3 h4 hq
    go_wp2_with fail
    clear hcui kli q3 q4 hq'
    go_loopg [6] (N - (i + 1)) (fun gk x wr => ∃ e : Nat, gk = N - e ∧ i + 1 ≤ e ∧ e ≤ N ∧ x = .int .i64 (e : Int) ∧ wr = w2 ∧ Hid (idxQ (l.drop (i + 1)) = (idxQ (l.drop e)).map (· + (e - (i + 1)))))
    case atStart => exact ⟨i + 1, rfl, Nat.le_refl _, by omega, by go_num, rfl, H0⟩
    case round =>
      rename_i J1 K1 hJ1 hK1
      clear H0
      obtain ⟨e, rfl, hie, heN, rfl, rfl, hv⟩ := hrel
      by_cases hlt : e < N
      · obtain ⟨ce, hce⟩ : ∃ c, c = l[e]'(by have := HN.out; omega) := ⟨_, rfl⟩
        have kle : e < u.size := by omega
        have hcue : u[e] = ce := by rw [HU.out e kle (by have := HN.out; omega), hce]
        have Hce : Hid (l[e]? = some ce) := by show _ = _; rw [List.getElem?_eq_getElem (by have := HN.out; omega), hce]
        clear hce
        by_cases he34 : ce = 34
        · have hx34 : ((ce.toNat : Int) != 34) = false := by rw [he34]; rfl
          have hx10 : ((ce.toNat : Int) == 10) = false := by rw [he34]; rfl
          have hne : ((e : Int) == (N : Int)) = false := by simp; omega
          have HI : Hid (nextL l i = if 400 < e - (i + 1) then .error 2 else .ok (⟨3, i, 0, (l.drop (i + 1)).take (e - (i + 1))⟩, e - (i + 1) + 2)) := by
            show _ = _
            rw [Hn.out, hv.out, idxQ_step Hce.out, if_pos (.inl he34)]
            simp only [Option.map_some, Nat.zero_add]
            rw [if_neg (by rw [List.getElem?_drop, show i + 1 + (e - (i + 1)) = e by omega, Hce.out, he34]; decide)]
          clear he34 hv hJ1 hK1
          by_cases h400 : 400 < e - (i + 1)
          · have h400' : (400 : Int) < (e : Int) - (i : Int) - 1 := by omega
            have He : Hid (nextL l i = .error 2) := by show _ = _; rw [HI.out, if_pos h400]
            clear h400
            -- an error: He; HO.out : the pieces before the result is stored
            -- pieces: token, result
            obtain ⟨bk, -⟩ := HO.out.blk
            have ht := lt_of_block bk
            have ft0 := free_of_heap bk (i := 0)
            have ft1 := free_of_heap bk (i := 1)
            have ft2 := free_of_heap bk (i := 2)
            have ft3 := free_of_heap bk (i := 3)
            have ct0 := cell_of_heap bk (i := 0)
            have ct1 := cell_of_heap bk (i := 1)
            have ct2 := cell_of_heap bk (i := 2)
            have ct3 := cell_of_heap bk (i := 3)
            simp only [List.getElem?_toArray, List.getElem?_cons_succ, List.getElem?_cons_zero] at ct0 ct1 ct2 ct3
            clear bk
            obtain ⟨bk, -⟩ := HO.out.swap.blk
            have hr := lt_of_block bk
            have fr0 := free_of_heap bk (i := 0)
            have fr1 := free_of_heap bk (i := 1)
            have fr2 := free_of_heap bk (i := 2)
            have fr3 := free_of_heap bk (i := 3)
            have cr0 := cell_of_heap bk (i := 0)
            have cr1 := cell_of_heap bk (i := 1)
            have cr2 := cell_of_heap bk (i := 2)
            have cr3 := cell_of_heap bk (i := 3)
            simp only [List.getElem?_toArray, List.getElem?_cons_succ, List.getElem?_cons_zero] at cr0 cr1 cr2 cr3
            clear bk
            have ntr := Owns.ne HO.out
            have ntr' := ntr.symm
            try simp only []
            repeat (first | go_values | go_skip | go_guarded | go_step | go_upon)
            have h1 := (HO.out).swap
            have h2 := (((Owns.store h1 (i := 0) (.int .i64 0)).store (i := 1) (.int .i64 0)).store (i := 2) (.int .i64 0)).store (i := 3) (.string ⟨#[]⟩)
            exact bodyPost_ret (rnext_res rfl h2.blk.1) (by rfl) ⟨by rw [He.out]; rfl, h2.base⟩
          · have h400' : ¬ (400 : Int) < (e : Int) - (i : Int) - 1 := by omega
            have He : Hid (nextL l i = .ok (⟨3, i, 0, (l.drop (i + 1)).take (e - (i + 1))⟩, e - (i + 1) + 2)) := by show _ = _; rw [HI.out, if_neg h400]
            clear h400
            -- pieces: token, result
            obtain ⟨bk, -⟩ := HO.out.blk
            have ht := lt_of_block bk
            have ft0 := free_of_heap bk (i := 0)
            have ft1 := free_of_heap bk (i := 1)
            have ft2 := free_of_heap bk (i := 2)
            have ft3 := free_of_heap bk (i := 3)
            have ct0 := cell_of_heap bk (i := 0)
            have ct1 := cell_of_heap bk (i := 1)
            have ct2 := cell_of_heap bk (i := 2)
            have ct3 := cell_of_heap bk (i := 3)
            simp only [List.getElem?_toArray, List.getElem?_cons_succ, List.getElem?_cons_zero] at ct0 ct1 ct2 ct3
            clear bk
            obtain ⟨bk, -⟩ := HO.out.swap.blk
            have hr := lt_of_block bk
            have fr0 := free_of_heap bk (i := 0)
            have fr1 := free_of_heap bk (i := 1)
            have fr2 := free_of_heap bk (i := 2)
            have fr3 := free_of_heap bk (i := 3)
            have cr0 := cell_of_heap bk (i := 0)
            have cr1 := cell_of_heap bk (i := 1)
            have cr2 := cell_of_heap bk (i := 2)
            have cr3 := cell_of_heap bk (i := 3)
            simp only [List.getElem?_toArray, List.getElem?_cons_succ, List.getElem?_cons_zero] at cr0 cr1 cr2 cr3
            clear bk
            have ntr := Owns.ne HO.out
            have ntr' := ntr.symm
            try simp only []
            repeat (first | go_values | go_skip | go_guarded | go_step | go_upon)
            have h2 := (((HO.out.swap.store (i := 0) (.int .i64 (3 : Nat))).store (i := 1) (.int .i64 (i : Nat))).store (i := 2) (.int .i64 (0 : Nat))).store (i := 3) (.string (u.extract (i + 1) e))
            exact bodyPost_ret (rnext_res rfl h2.blk.1) (by rfl) ⟨by rw [He.out, HX.out]; rfl, h2.base⟩
        · have hx34 : ((ce.toNat : Int) != 34) = true := by
            have : ce.toNat ≠ 34 := fun h => he34 (UInt8.toNat_inj.1 h)
            simp; omega
          by_cases he10 : ce = 10
          · have hx10 : ((ce.toNat : Int) != 10) = false := by rw [he10]; rfl
            have hx10' : ((ce.toNat : Int) == 10) = true := by rw [he10]; rfl
            have hne : ((e : Int) == (N : Int)) = false := by simp; omega
            have He : Hid (nextL l i = .error 6) := by
              show _ = _
              rw [Hn.out, hv.out, idxQ_step Hce.out, if_pos (.inr he10)]
              simp only [Option.map_some, Nat.zero_add]
              rw [if_pos (by rw [List.getElem?_drop, show i + 1 + (e - (i + 1)) = e by omega, Hce.out, he10])]
            clear he34 he10 hv hJ1 hK1
            -- an error: He; HO.out : the pieces before the result is stored
            -- pieces: token, result
            obtain ⟨bk, -⟩ := HO.out.blk
            have ht := lt_of_block bk
            have ft0 := free_of_heap bk (i := 0)
            have ft1 := free_of_heap bk (i := 1)
            have ft2 := free_of_heap bk (i := 2)
            have ft3 := free_of_heap bk (i := 3)
            have ct0 := cell_of_heap bk (i := 0)
            have ct1 := cell_of_heap bk (i := 1)
            have ct2 := cell_of_heap bk (i := 2)
            have ct3 := cell_of_heap bk (i := 3)
            simp only [List.getElem?_toArray, List.getElem?_cons_succ, List.getElem?_cons_zero] at ct0 ct1 ct2 ct3
            clear bk
            obtain ⟨bk, -⟩ := HO.out.swap.blk
            have hr := lt_of_block bk
            have fr0 := free_of_heap bk (i := 0)
            have fr1 := free_of_heap bk (i := 1)
            have fr2 := free_of_heap bk (i := 2)
            have fr3 := free_of_heap bk (i := 3)
            have cr0 := cell_of_heap bk (i := 0)
            have cr1 := cell_of_heap bk (i := 1)
            have cr2 := cell_of_heap bk (i := 2)
            have cr3 := cell_of_heap bk (i := 3)
            simp only [List.getElem?_toArray, List.getElem?_cons_succ, List.getElem?_cons_zero] at cr0 cr1 cr2 cr3
            clear bk
            have ntr := Owns.ne HO.out
            have ntr' := ntr.symm
            try simp only []
            repeat (first | go_values | go_skip | go_guarded | go_step | go_upon)
            have h1 := (HO.out).swap
            have h2 := (((Owns.store h1 (i := 0) (.int .i64 0)).store (i := 1) (.int .i64 0)).store (i := 2) (.int .i64 0)).store (i := 3) (.string ⟨#[]⟩)
            exact bodyPost_ret (rnext_res rfl h2.blk.1) (by rfl) ⟨by rw [He.out]; rfl, h2.base⟩
          · have hx10 : ((ce.toNat : Int) != 10) = true := by
              have : ce.toNat ≠ 10 := fun h => he10 (UInt8.toNat_inj.1 h)
              simp; omega
            have HV : Hid (idxQ (l.drop (i + 1)) = (idxQ (l.drop (e + 1))).map (· + (e + 1 - (i + 1)))) := by
              show _ = _
              rw [hv.out, idxQ_step Hce.out, if_neg (by rintro (h | h); · exact he34 h
                                                        · exact he10 h)]
              cases idxQ (l.drop (e + 1)) with
              | none => rfl
              | some n => simp; omega
            clear he34 he10 hv
            go_wp2_with fail
            go_roundg (N - (e + 1))
            case measure => omega
            case rel => exact ⟨e + 1, rfl, by omega, by omega, by go_num, rfl, HV⟩
      · obtain rfl : e = N := by omega
        have He : Hid (nextL l i = .error 6) := by
          show _ = _
          rw [Hn.out, hv.out, List.drop_of_length_le (by have := HN.out; omega)]
          rfl
        clear hv hJ1 hK1 hlt
        -- an error: He; HO.out : the pieces before the result is stored
        -- pieces: token, result
        obtain ⟨bk, -⟩ := HO.out.blk
        have ht := lt_of_block bk
        have ft0 := free_of_heap bk (i := 0)
        have ft1 := free_of_heap bk (i := 1)
        have ft2 := free_of_heap bk (i := 2)
        have ft3 := free_of_heap bk (i := 3)
        have ct0 := cell_of_heap bk (i := 0)
        have ct1 := cell_of_heap bk (i := 1)
        have ct2 := cell_of_heap bk (i := 2)
        have ct3 := cell_of_heap bk (i := 3)
        simp only [List.getElem?_toArray, List.getElem?_cons_succ, List.getElem?_cons_zero] at ct0 ct1 ct2 ct3
        clear bk
        obtain ⟨bk, -⟩ := HO.out.swap.blk
        have hr := lt_of_block bk
        have fr0 := free_of_heap bk (i := 0)
        have fr1 := free_of_heap bk (i := 1)
        have fr2 := free_of_heap bk (i := 2)
        have fr3 := free_of_heap bk (i := 3)
        have cr0 := cell_of_heap bk (i := 0)
        have cr1 := cell_of_heap bk (i := 1)
        have cr2 := cell_of_heap bk (i := 2)
        have cr3 := cell_of_heap bk (i := 3)
        simp only [List.getElem?_toArray, List.getElem?_cons_succ, List.getElem?_cons_zero] at cr0 cr1 cr2 cr3
        clear bk
        have ntr := Owns.ne HO.out
        have ntr' := ntr.symm
        try simp only []
        repeat (first | go_values | go_skip | go_guarded | go_step | go_upon)
        have h1 := (HO.out).swap
        have h2 := (((Owns.store h1 (i := 0) (.int .i64 0)).store (i := 1) (.int .i64 0)).store (i := 2) (.int .i64 0)).store (i := 3) (.string ⟨#[]⟩)
        exact bodyPost_ret (rnext_res rfl h2.blk.1) (by rfl) ⟨by rw [He.out]; rfl, h2.base⟩
  have hq' : ((ci.toNat : Int) == 34) = false := by rw [hq]; simpa using h6
  clear hq
  focus
    -- pieces: token, result
    obtain ⟨bk, -⟩ := HO.out.blk
    have ht := lt_of_block bk
    have ft0 := free_of_heap bk (i := 0)
    have ft1 := free_of_heap bk (i := 1)
    have ft2 := free_of_heap bk (i := 2)
    have ft3 := free_of_heap bk (i := 3)
    have ct0 := cell_of_heap bk (i := 0)
    have ct1 := cell_of_heap bk (i := 1)
    have ct2 := cell_of_heap bk (i := 2)
    have ct3 := cell_of_heap bk (i := 3)
    simp only [List.getElem?_toArray, List.getElem?_cons_succ, List.getElem?_cons_zero] at ct0 ct1 ct2 ct3
    clear bk
    obtain ⟨bk, -⟩ := HO.out.swap.blk
    have hr := lt_of_block bk
    have fr0 := free_of_heap bk (i := 0)
    have fr1 := free_of_heap bk (i := 1)
    have fr2 := free_of_heap bk (i := 2)
    have fr3 := free_of_heap bk (i := 3)
    have cr0 := cell_of_heap bk (i := 0)
    have cr1 := cell_of_heap bk (i := 1)
    have cr2 := cell_of_heap bk (i := 2)
    have cr3 := cell_of_heap bk (i := 3)
    simp only [List.getElem?_toArray, List.getElem?_cons_succ, List.getElem?_cons_zero] at cr0 cr1 cr2 cr3
    clear bk
    have ntr := Owns.ne HO.out
    have ntr' := ntr.symm
    go_wp2_with fail
    clear ht ft0 ft1 ft2 ft3 ct0 ct1 ct2 ct3 hr fr0 fr1 fr2 fr3 cr0 cr1 cr2 cr3 ntr ntr'
  replace HO : Hid (Owns w (w2.setCell ⟨bT, 0, none⟩ (.int .i64 4)) [blk bT (tokO 4 i 0), blk bR tobj0]) := Lib.hid (HO.out.store (i := 0) (.int .i64 4))
  obtain ⟨w3, hw3⟩ : ∃ w3, w3 = w2.setCell ⟨bT, 0, none⟩ (.int .i64 4) := ⟨_, rfl⟩
  rw [← hw3] at HO ⊢
  clear hw3
  try go_at_call 87
  refine (rhas_c [33, 60, 62] ci w3 (by simp)).mono ?_
  rintro e w4 ⟨rfl, hw⟩
  subst hw
  rw [bang_cls, HA.out.2]
  have HNx : Hid (nextL l i = if (A = 7 ∨ A = 8) ∧ l[i + 1]? = some 61 then .ok (⟨4, i, 0, (l.drop i).take 2⟩, 2) else if A = 8 ∨ A = 9 then .ok (⟨4, i, 0, (l.drop i).take 1⟩, 1) else .error 3) := by
    show _ = _
    unfold nextL
    rw [HA.out.1, if_neg h3, if_neg h4, if_neg h6]
  clear h3 h4 h6
  by_cases h78 : A = 7 ∨ A = 8
  · have hq1 : ((A == 7) || (A == 8)) = true := by simpa using h78
    rw [hq1]
    clear hq1
    by_cases hlt : i + 1 < N
    · obtain ⟨d, hd⟩ : ∃ d, d = l[i + 1]'(by have := HN.out; omega) := ⟨_, rfl⟩
      have kld : i + 1 < u.size := by omega
      have hcud : u[i + 1] = d := by rw [HU.out (i + 1) kld (by have := HN.out; omega), hd]
      have Hd : Hid (l[i + 1]? = some d) := by show _ = _; rw [List.getElem?_eq_getElem (by have := HN.out; omega), hd]
      clear hd
      by_cases h61 : d = 61
      · have hx61 : ((d.toNat : Int) == 61) = true := by rw [h61]; rfl
        have He : Hid (nextL l i = .ok (⟨4, i, 0, (l.drop i).take 2⟩, 2)) := by show _ = _; rw [HNx.out, if_pos ⟨h78, by rw [Hd.out, h61]⟩]
        clear h61 h78
        -- pieces: token, result
        obtain ⟨bk, -⟩ := HO.out.blk
        have ht := lt_of_block bk
        have ft0 := free_of_heap bk (i := 0)
        have ft1 := free_of_heap bk (i := 1)
        have ft2 := free_of_heap bk (i := 2)
        have ft3 := free_of_heap bk (i := 3)
        have ct0 := cell_of_heap bk (i := 0)
        have ct1 := cell_of_heap bk (i := 1)
        have ct2 := cell_of_heap bk (i := 2)
        have ct3 := cell_of_heap bk (i := 3)
        simp only [List.getElem?_toArray, List.getElem?_cons_succ, List.getElem?_cons_zero] at ct0 ct1 ct2 ct3
        clear bk
        obtain ⟨bk, -⟩ := HO.out.swap.blk
        have hr := lt_of_block bk
        have fr0 := free_of_heap bk (i := 0)
        have fr1 := free_of_heap bk (i := 1)
        have fr2 := free_of_heap bk (i := 2)
        have fr3 := free_of_heap bk (i := 3)
        have cr0 := cell_of_heap bk (i := 0)
        have cr1 := cell_of_heap bk (i := 1)
        have cr2 := cell_of_heap bk (i := 2)
        have cr3 := cell_of_heap bk (i := 3)
        simp only [List.getElem?_toArray, List.getElem?_cons_succ, List.getElem?_cons_zero] at cr0 cr1 cr2 cr3
        clear bk
        have ntr := Owns.ne HO.out
        have ntr' := ntr.symm
        try simp only []
        repeat (first | go_values | go_skip | go_guarded | go_step | go_upon)
        have h1 := (Owns.store (HO.out) (i := 3) (.string (u.extract i (i + 2)))).swap
        have h2 := (((Owns.store h1 (i := 0) (.int .i64 (4 : Nat))).store (i := 1) (.int .i64 (i : Nat))).store (i := 2) (.int .i64 (0 : Nat))).store (i := 3) (.string (u.extract i (i + 2)))
        exact bodyPost_ret (rnext_res rfl h2.blk.1) (by rfl) ⟨by rw [He.out, HX.out, show i + 2 - i = 2 by omega]; rfl, h2.base⟩
      · have hx61 : ((d.toNat : Int) == 61) = false := by
          have : d.toNat ≠ 61 := fun h => h61 (UInt8.toNat_inj.1 h)
          simp; omega
        have HNy : Hid (nextL l i = if A = 8 ∨ A = 9 then .ok (⟨4, i, 0, (l.drop i).take 1⟩, 1) else .error 3) := by
          show _ = _
          rw [HNx.out, if_neg (by rintro ⟨-, h⟩; rw [Hd.out] at h; exact h61 (by simpa using h))]
        clear h61 h78
        go_wp2_with fail
        try go_at_call 87
        refine (rhas_c [59, 44, 46, 58, 40, 41, 91, 93, 123, 125, 61, 60, 62, 43, 45] ci _ (by simp)).mono ?_
        rintro x w5 ⟨rfl, hw⟩
        subst hw
        rw [symb_cls, HA.out.2]
        by_cases h89 : A = 8 ∨ A = 9
        · have hq2 : ((A == 8) || (A == 9)) = true := by simpa using h89
          have He : Hid (nextL l i = .ok (⟨4, i, 0, (l.drop i).take 1⟩, 1)) := by show _ = _; rw [HNy.out, if_pos h89]
          rw [hq2]
          clear h89 hq2
          -- pieces: token, result
          obtain ⟨bk, -⟩ := HO.out.blk
          have ht := lt_of_block bk
          have ft0 := free_of_heap bk (i := 0)
          have ft1 := free_of_heap bk (i := 1)
          have ft2 := free_of_heap bk (i := 2)
          have ft3 := free_of_heap bk (i := 3)
          have ct0 := cell_of_heap bk (i := 0)
          have ct1 := cell_of_heap bk (i := 1)
          have ct2 := cell_of_heap bk (i := 2)
          have ct3 := cell_of_heap bk (i := 3)
          simp only [List.getElem?_toArray, List.getElem?_cons_succ, List.getElem?_cons_zero] at ct0 ct1 ct2 ct3
          clear bk
          obtain ⟨bk, -⟩ := HO.out.swap.blk
          have hr := lt_of_block bk
          have fr0 := free_of_heap bk (i := 0)
          have fr1 := free_of_heap bk (i := 1)
          have fr2 := free_of_heap bk (i := 2)
          have fr3 := free_of_heap bk (i := 3)
          have cr0 := cell_of_heap bk (i := 0)
          have cr1 := cell_of_heap bk (i := 1)
          have cr2 := cell_of_heap bk (i := 2)
          have cr3 := cell_of_heap bk (i := 3)
          simp only [List.getElem?_toArray, List.getElem?_cons_succ, List.getElem?_cons_zero] at cr0 cr1 cr2 cr3
          clear bk
          have ntr := Owns.ne HO.out
          have ntr' := ntr.symm
          try simp only []
          repeat (first | go_values | go_skip | go_guarded | go_step | go_upon)
          have h1 := (Owns.store (HO.out) (i := 3) (.string (u.extract i (i + 1)))).swap
          have h2 := (((Owns.store h1 (i := 0) (.int .i64 (4 : Nat))).store (i := 1) (.int .i64 (i : Nat))).store (i := 2) (.int .i64 (0 : Nat))).store (i := 3) (.string (u.extract i (i + 1)))
          exact bodyPost_ret (rnext_res rfl h2.blk.1) (by rfl) ⟨by rw [He.out, HX.out, show i + 1 - i = 1 by omega]; rfl, h2.base⟩
        · have hq2 : ((A == 8) || (A == 9)) = false := by simpa using h89
          have He : Hid (nextL l i = .error 3) := by show _ = _; rw [HNy.out, if_neg h89]
          rw [hq2]
          clear h89 hq2
          -- an error: He; HO.out : the pieces before the result is stored
          -- pieces: token, result
          obtain ⟨bk, -⟩ := HO.out.blk
          have ht := lt_of_block bk
          have ft0 := free_of_heap bk (i := 0)
          have ft1 := free_of_heap bk (i := 1)
          have ft2 := free_of_heap bk (i := 2)
          have ft3 := free_of_heap bk (i := 3)
          have ct0 := cell_of_heap bk (i := 0)
          have ct1 := cell_of_heap bk (i := 1)
          have ct2 := cell_of_heap bk (i := 2)
          have ct3 := cell_of_heap bk (i := 3)
          simp only [List.getElem?_toArray, List.getElem?_cons_succ, List.getElem?_cons_zero] at ct0 ct1 ct2 ct3
          clear bk
          obtain ⟨bk, -⟩ := HO.out.swap.blk
          have hr := lt_of_block bk
          have fr0 := free_of_heap bk (i := 0)
          have fr1 := free_of_heap bk (i := 1)
          have fr2 := free_of_heap bk (i := 2)
          have fr3 := free_of_heap bk (i := 3)
          have cr0 := cell_of_heap bk (i := 0)
          have cr1 := cell_of_heap bk (i := 1)
          have cr2 := cell_of_heap bk (i := 2)
          have cr3 := cell_of_heap bk (i := 3)
          simp only [List.getElem?_toArray, List.getElem?_cons_succ, List.getElem?_cons_zero] at cr0 cr1 cr2 cr3
          clear bk
          have ntr := Owns.ne HO.out
          have ntr' := ntr.symm
          try simp only []
          repeat (first | go_values | go_skip | go_guarded | go_step | go_upon)
          have h1 := (HO.out).swap
          have h2 := (((Owns.store h1 (i := 0) (.int .i64 0)).store (i := 1) (.int .i64 0)).store (i := 2) (.int .i64 0)).store (i := 3) (.string ⟨#[]⟩)
          exact bodyPost_ret (rnext_res rfl h2.blk.1) (by rfl) ⟨by rw [He.out]; rfl, h2.base⟩
    · have HNy : Hid (nextL l i = if A = 8 ∨ A = 9 then .ok (⟨4, i, 0, (l.drop i).take 1⟩, 1) else .error 3) := by
        show _ = _
        rw [HNx.out, if_neg (by rintro ⟨-, h⟩; rw [List.getElem?_eq_none (by have := HN.out; omega)] at h; cases h)]
      clear h78
      go_wp2_with fail
      try go_at_call 87
      refine (rhas_c [59, 44, 46, 58, 40, 41, 91, 93, 123, 125, 61, 60, 62, 43, 45] ci _ (by simp)).mono ?_
      rintro x w5 ⟨rfl, hw⟩
      subst hw
      rw [symb_cls, HA.out.2]
      by_cases h89 : A = 8 ∨ A = 9
      · have hq2 : ((A == 8) || (A == 9)) = true := by simpa using h89
        have He : Hid (nextL l i = .ok (⟨4, i, 0, (l.drop i).take 1⟩, 1)) := by show _ = _; rw [HNy.out, if_pos h89]
        rw [hq2]
        clear h89 hq2
        -- pieces: token, result
        obtain ⟨bk, -⟩ := HO.out.blk
        have ht := lt_of_block bk
        have ft0 := free_of_heap bk (i := 0)
        have ft1 := free_of_heap bk (i := 1)
        have ft2 := free_of_heap bk (i := 2)
        have ft3 := free_of_heap bk (i := 3)
        have ct0 := cell_of_heap bk (i := 0)
        have ct1 := cell_of_heap bk (i := 1)
        have ct2 := cell_of_heap bk (i := 2)
        have ct3 := cell_of_heap bk (i := 3)
        simp only [List.getElem?_toArray, List.getElem?_cons_succ, List.getElem?_cons_zero] at ct0 ct1 ct2 ct3
        clear bk
        obtain ⟨bk, -⟩ := HO.out.swap.blk
        have hr := lt_of_block bk
        have fr0 := free_of_heap bk (i := 0)
        have fr1 := free_of_heap bk (i := 1)
        have fr2 := free_of_heap bk (i := 2)
        have fr3 := free_of_heap bk (i := 3)
        have cr0 := cell_of_heap bk (i := 0)
        have cr1 := cell_of_heap bk (i := 1)
        have cr2 := cell_of_heap bk (i := 2)
        have cr3 := cell_of_heap bk (i := 3)
        simp only [List.getElem?_toArray, List.getElem?_cons_succ, List.getElem?_cons_zero] at cr0 cr1 cr2 cr3
        clear bk
        have ntr := Owns.ne HO.out
        have ntr' := ntr.symm
        try simp only []
        repeat (first | go_values | go_skip | go_guarded | go_step | go_upon)
        have h1 := (Owns.store (HO.out) (i := 3) (.string (u.extract i (i + 1)))).swap
        have h2 := (((Owns.store h1 (i := 0) (.int .i64 (4 : Nat))).store (i := 1) (.int .i64 (i : Nat))).store (i := 2) (.int .i64 (0 : Nat))).store (i := 3) (.string (u.extract i (i + 1)))
        exact bodyPost_ret (rnext_res rfl h2.blk.1) (by rfl) ⟨by rw [He.out, HX.out, show i + 1 - i = 1 by omega]; rfl, h2.base⟩
      · have hq2 : ((A == 8) || (A == 9)) = false := by simpa using h89
        have He : Hid (nextL l i = .error 3) := by show _ = _; rw [HNy.out, if_neg h89]
        rw [hq2]
        clear h89 hq2
        -- an error: He; HO.out : the pieces before the result is stored
        -- pieces: token, result
        obtain ⟨bk, -⟩ := HO.out.blk
        have ht := lt_of_block bk
        have ft0 := free_of_heap bk (i := 0)
        have ft1 := free_of_heap bk (i := 1)
        have ft2 := free_of_heap bk (i := 2)
        have ft3 := free_of_heap bk (i := 3)
        have ct0 := cell_of_heap bk (i := 0)
        have ct1 := cell_of_heap bk (i := 1)
        have ct2 := cell_of_heap bk (i := 2)
        have ct3 := cell_of_heap bk (i := 3)
        simp only [List.getElem?_toArray, List.getElem?_cons_succ, List.getElem?_cons_zero] at ct0 ct1 ct2 ct3
        clear bk
        obtain ⟨bk, -⟩ := HO.out.swap.blk
        have hr := lt_of_block bk
        have fr0 := free_of_heap bk (i := 0)
        have fr1 := free_of_heap bk (i := 1)
        have fr2 := free_of_heap bk (i := 2)
        have fr3 := free_of_heap bk (i := 3)
        have cr0 := cell_of_heap bk (i := 0)
        have cr1 := cell_of_heap bk (i := 1)
        have cr2 := cell_of_heap bk (i := 2)
        have cr3 := cell_of_heap bk (i := 3)
        simp only [List.getElem?_toArray, List.getElem?_cons_succ, List.getElem?_cons_zero] at cr0 cr1 cr2 cr3
        clear bk
        have ntr := Owns.ne HO.out
        have ntr' := ntr.symm
        try simp only []
        repeat (first | go_values | go_skip | go_guarded | go_step | go_upon)
        have h1 := (HO.out).swap
        have h2 := (((Owns.store h1 (i := 0) (.int .i64 0)).store (i := 1) (.int .i64 0)).store (i := 2) (.int .i64 0)).store (i := 3) (.string ⟨#[]⟩)
        exact bodyPost_ret (rnext_res rfl h2.blk.1) (by rfl) ⟨by rw [He.out]; rfl, h2.base⟩
  · have hq1 : ((A == 7) || (A == 8)) = false := by simpa using h78
    rw [hq1]
    have HNy : Hid (nextL l i = if A = 8 ∨ A = 9 then .ok (⟨4, i, 0, (l.drop i).take 1⟩, 1) else .error 3) := by
      show _ = _
      rw [HNx.out, if_neg (fun h => h78 h.1)]
    clear h78 hq1
    go_wp2_with fail
    try go_at_call 87
    refine (rhas_c [59, 44, 46, 58, 40, 41, 91, 93, 123, 125, 61, 60, 62, 43, 45] ci _ (by simp)).mono ?_
    rintro x w5 ⟨rfl, hw⟩
    subst hw
    rw [symb_cls, HA.out.2]
    by_cases h89 : A = 8 ∨ A = 9
    · have hq2 : ((A == 8) || (A == 9)) = true := by simpa using h89
      have He : Hid (nextL l i = .ok (⟨4, i, 0, (l.drop i).take 1⟩, 1)) := by show _ = _; rw [HNy.out, if_pos h89]
      rw [hq2]
      clear h89 hq2
      -- pieces: token, result
      obtain ⟨bk, -⟩ := HO.out.blk
      have ht := lt_of_block bk
      have ft0 := free_of_heap bk (i := 0)
      have ft1 := free_of_heap bk (i := 1)
      have ft2 := free_of_heap bk (i := 2)
      have ft3 := free_of_heap bk (i := 3)
      have ct0 := cell_of_heap bk (i := 0)
      have ct1 := cell_of_heap bk (i := 1)
      have ct2 := cell_of_heap bk (i := 2)
      have ct3 := cell_of_heap bk (i := 3)
      simp only [List.getElem?_toArray, List.getElem?_cons_succ, List.getElem?_cons_zero] at ct0 ct1 ct2 ct3
      clear bk
      obtain ⟨bk, -⟩ := HO.out.swap.blk
      have hr := lt_of_block bk
      have fr0 := free_of_heap bk (i := 0)
      have fr1 := free_of_heap bk (i := 1)
      have fr2 := free_of_heap bk (i := 2)
      have fr3 := free_of_heap bk (i := 3)
      have cr0 := cell_of_heap bk (i := 0)
      have cr1 := cell_of_heap bk (i := 1)
      have cr2 := cell_of_heap bk (i := 2)
      have cr3 := cell_of_heap bk (i := 3)
      simp only [List.getElem?_toArray, List.getElem?_cons_succ, List.getElem?_cons_zero] at cr0 cr1 cr2 cr3
      clear bk
      have ntr := Owns.ne HO.out
      have ntr' := ntr.symm
      try simp only []
      repeat (first | go_values | go_skip | go_guarded | go_step | go_upon)
      have h1 := (Owns.store (HO.out) (i := 3) (.string (u.extract i (i + 1)))).swap
      have h2 := (((Owns.store h1 (i := 0) (.int .i64 (4 : Nat))).store (i := 1) (.int .i64 (i : Nat))).store (i := 2) (.int .i64 (0 : Nat))).store (i := 3) (.string (u.extract i (i + 1)))
      exact bodyPost_ret (rnext_res rfl h2.blk.1) (by rfl) ⟨by rw [He.out, HX.out, show i + 1 - i = 1 by omega]; rfl, h2.base⟩
    · have hq2 : ((A == 8) || (A == 9)) = false := by simpa using h89
      have He : Hid (nextL l i = .error 3) := by show _ = _; rw [HNy.out, if_neg h89]
      rw [hq2]
      clear h89 hq2
      -- an error: He; HO.out : the pieces before the result is stored
      -- pieces: token, result
      obtain ⟨bk, -⟩ := HO.out.blk
      have ht := lt_of_block bk
      have ft0 := free_of_heap bk (i := 0)
      have ft1 := free_of_heap bk (i := 1)
      have ft2 := free_of_heap bk (i := 2)
      have ft3 := free_of_heap bk (i := 3)
      have ct0 := cell_of_heap bk (i := 0)
      have ct1 := cell_of_heap bk (i := 1)
      have ct2 := cell_of_heap bk (i := 2)
      have ct3 := cell_of_heap bk (i := 3)
      simp only [List.getElem?_toArray, List.getElem?_cons_succ, List.getElem?_cons_zero] at ct0 ct1 ct2 ct3
      clear bk
      obtain ⟨bk, -⟩ := HO.out.swap.blk
      have hr := lt_of_block bk
      have fr0 := free_of_heap bk (i := 0)
      have fr1 := free_of_heap bk (i := 1)
      have fr2 := free_of_heap bk (i := 2)
      have fr3 := free_of_heap bk (i := 3)
      have cr0 := cell_of_heap bk (i := 0)
      have cr1 := cell_of_heap bk (i := 1)
      have cr2 := cell_of_heap bk (i := 2)
      have cr3 := cell_of_heap bk (i := 3)
      simp only [List.getElem?_toArray, List.getElem?_cons_succ, List.getElem?_cons_zero] at cr0 cr1 cr2 cr3
      clear bk
      have ntr := Owns.ne HO.out
      have ntr' := ntr.symm
      try simp only []
      repeat (first | go_values | go_skip | go_guarded | go_step | go_upon)
      have h1 := (HO.out).swap
      have h2 := (((Owns.store h1 (i := 0) (.int .i64 0)).store (i := 1) (.int .i64 0)).store (i := 2) (.int .i64 0)).store (i := 3) (.string ⟨#[]⟩)
      exact bodyPost_ret (rnext_res rfl h2.blk.1) (by rfl) ⟨by rw [He.out]; rfl, h2.base⟩
def widthT (t : Tok) : Nat := if t.kind = 3 then t.text.length + 2 else t.text.length
theorem next_width {l : List UInt8} {i : Nat} {t : Tok} {k : Nat} (h : nextL l i = .ok (t, k)) : widthT t = k := by
  have hw (C : List Nat) : ((l.drop i).take (whileN C (l.drop i))).length = whileN C (l.drop i) := by
    rw [List.length_take]
    have := whileN_le C (l.drop i)
    omega
  unfold widthT
  unfold nextL at h
  split at h
  · split at h
    · cases h
    · injection h with h; injection h with h1 h2; subst h1; subst h2; simp only; rw [if_neg (by decide), hw]
  split at h
  · split at h
    · cases h
    · injection h with h; injection h with h1 h2; subst h1; subst h2; simp only; rw [if_neg (by decide), hw]
  split at h
  · split at h
    · cases h
    · rename_i n hn
      have hn := idxQ_lt hn
      split at h
      · cases h
      split at h
      · cases h
      · injection h with h; injection h with h1 h2; subst h1; subst h2; simp only [if_true, List.length_take]; omega
  split at h
  · rename_i h0
    have := (List.getElem?_eq_some_iff.1 h0.2).1
    injection h with h; injection h with h1 h2; subst h1; subst h2; simp only; rw [if_neg (by decide), List.length_take, List.length_drop]; omega
  split at h
  · rename_i h0
    have hi : i < l.length := Decidable.byContradiction fun hx => by
      rw [atL_none (by omega)] at h0
      omega
    injection h with h; injection h with h1 h2; subst h1; subst h2; simp only; rw [if_neg (by decide), List.length_take, List.length_drop]; omega
  · cases h
theorem rWidth_c (t : Tok) (w : World) (hl : t.text.length ≤ 20000) : Calls Tryz.prog 83 #[tval t] w fun e w' => e = .returned (.int .i64 (widthT t : Nat)) ∧ Below w.heap.size w w' := by
  have HW : Hid (widthT t = if t.kind = 3 then t.text.length + 2 else t.text.length) := rfl
  obtain ⟨K, hK⟩ : ∃ K, K = widthT t := ⟨_, rfl⟩
  rw [← hK] at HW ⊢
  clear hK
  obtain ⟨kd, po, nu, u⟩ := t
  simp only at hl HW
  go_enter Tryz.func83, Tryz.ntmps83
  by_cases h3 : kd = 3
  · have h3' : ((kd : Int) == 3) = true := by simp; omega
    rw [if_pos h3] at HW
    clear h3
    go_wp2_with fail
    go_ret
    exact ⟨by rw [HW.out]; rfl, (Below.refl _ _).alloc (Nat.le_refl _) _⟩
  · have h3' : ((kd : Int) == 3) = false := by simp; omega
    rw [if_neg h3] at HW
    clear h3
    go_wp2_with fail
    go_ret
    exact ⟨by rw [HW.out]; rfl, (Below.refl _ _).alloc (Nat.le_refl _) _⟩
theorem TokStep1 {V W4 w2 : World} {v v' : Value} {acc : List Tok} {t : Tok} {o1 o2 : Obj} (h : ORow 75 4 V W4 v acc.length (acc.flatMap tcells)) (hrow : w2.ownsRow 0 75 4 v' (acc.length + 1) (acc.flatMap tcells ++ tcells t))
    (hgrow : ((W4.alloc o1).alloc o2).grownBy w2 v.ownBlock) (hblk : v'.ownBlock = v.ownBlock ∨ v'.ownBlock = some ((W4.alloc o1).alloc o2).heap.size) : ORow 75 4 V w2 v' (acc ++ [t]).length ((acc ++ [t]).flatMap tcells) := TokStep h hrow hgrow hblk
theorem tok_kept {V W4 w2 : World} {v : Value} {n : Nat} {xs : List Value} {o1 o2 : Obj} (h : ORow 75 4 V W4 v n xs) (hgrow : ((W4.alloc o1).alloc o2).grownBy w2 v.ownBlock) : w2.heap[W4.heap.size]? = some o1 := by
  have h1 : ((W4.alloc o1).alloc o2).heap[W4.heap.size]? = some o1 := by
    have h0 := new_heap W4 o1 W4.heap.size rfl
    rw [((Below.refl (W4.alloc o1).heap.size (W4.alloc o1)).alloc (Nat.le_refl _) o2).block W4.heap.size (by simp)]
    exact h0
  rw [hgrow.block W4.heap.size (by simp; omega) (fun e => ?_)]
  · exact h1
  · first
      | exact absurd (h.row.lt W4.heap.size e).2 (Nat.lt_irrefl _)
      | exact absurd (h.row.lt W4.heap.size e.symm).2 (Nat.lt_irrefl _)
theorem tok_text {l : List UInt8} {i : Nat} {t : Tok} {k : Nat} (h : nextL l i = .ok (t, k)) (hl : l.length ≤ 20000) : t.text.length ≤ 20000 := by
  have h1 := next_width h
  have h2 := nextL_width h (Decidable.byContradiction fun hx => by
    unfold nextL at h
    rw [atL_none (by omega)] at h
    simp at h)
  unfold widthT at h1
  split at h1 <;> omega
set_option maxRecDepth 100000 in
set_option maxHeartbeats 4000000 in
theorem rLex_c (l : List UInt8) (w : World) (hl : l.length ≤ 140737488355328) : Calls Tryz.prog 58 #[.string (bs l)] w (LexPost w l) := by
  by_cases h2 : 20000 < l.length
  · have He : Hid (lexAll l = ([], 2, -1)) := if_pos h2
    go_enter Tryz.func58, Tryz.ntmps58
    go_wp2_with fail
    refine bodyPost_ret (results_tmp3 rfl _ _ _) (by rfl) ⟨.slice none 0 0, ?_, ?_, Below.refl _ _⟩
    · rw [He.out]; rfl
    · rw [He.out]; exact .inl ⟨rfl, rfl⟩
  have hl2 : l.length ≤ 20000 := by omega
  have HL := Lib.hid hl2
  go_enter Tryz.func58, Tryz.ntmps58
  go_wp2_with fail
  try go_at_call 62
  refine (rgap_c l 0 w (by omega) (by omega)).mono ?_
  rintro e W2 ⟨rfl, hw⟩
  subst hw
  have hg0 := gapE_le l 0 (by omega)
  have H0 := Lib.hid (lexI_start l)
  go_wp2_with fail
  go_loopg [5, 6] (l.length - gapE l 0) (fun gk v i wr => ∃ (k : Nat) (acc : List Tok), gk = l.length - k ∧ k ≤ l.length ∧ i = .int .i64 (k : Int) ∧ acc.length ≤ 5000 ∧ Hid (LexI l k acc) ∧ Hid (ORow 75 4 W2 wr v acc.length (acc.flatMap tcells)))
  case atStart => exact ⟨gapE l 0, [], rfl, hg0, rfl, by simp, H0, ORow.nil (Below.refl _ _)⟩
  case round =>
    rename_i J1 K1 hJ1 hK1
    clear H0 hg0
    obtain ⟨k, acc, rfl, hk, rfl, h5, hL, hR⟩ := hrel
    obtain ⟨sa, sc, rfl⟩ := hR.out.form
    by_cases hlt : k < l.length
    · go_wp2_with fail
      try go_at_call 82
      refine (rnext_c l k wr HL.out hlt).mono ?_
      rintro e W4 ⟨rfl, hb⟩
      have HR := Lib.hid (hR.out.keep hb)
      clear hb hR
      rcases hn : nextL l k with e | ⟨t, m⟩
      · have he1 : ((e : Int) != 0) = true := by have := nextL_err hn; simp; omega
        have He := Lib.hid (lexI_err hL.out hlt HL.out hn)
        clear hn hL
        simp only [rnextV]
        go_wp2_with fail
        refine bodyPost_ret (results_tmp3 rfl _ _ _) (by rfl) ⟨.slice none 0 0, ?_, ?_, ?_⟩
        · rw [He.out]; rfl
        · rw [He.out]; exact .inl ⟨rfl, rfl⟩
        · exact HR.out.below.trans (Below.mono ((Below.refl _ _).alloc (Nat.le_refl _) _) HR.out.below.size)
      · obtain ⟨n1, n2⟩ := nextL_width hn hlt
        have HWd := Lib.hid (next_width hn)
        have HTl := Lib.hid (tok_text hn HL.out)
        simp only [rnextV, tval]
        by_cases hf : acc.length = 5000
        · have hf1 : ((acc.length : Int) == 5000) = true := by simp; omega
          have He := Lib.hid (lexI_full hL.out hlt HL.out hn hf)
          clear hn hL hf h5
          go_wp2_with fail
          refine bodyPost_ret (results_tmp3 rfl _ _ _) (by rfl) ⟨.slice none 0 0, ?_, ?_, ?_⟩
          · rw [He.out]; rfl
          · rw [He.out]; exact .inl ⟨rfl, rfl⟩
          · exact HR.out.below.trans (Below.mono ((Below.refl _ _).alloc (Nat.le_refl _) _) HR.out.below.size)
        · have hf1 : ((acc.length : Int) == 5000) = false := by simp; omega
          have HN := Lib.hid (lexI_next hL.out hlt hn hf)
          have hlen : acc.length ≤ 4999 := by omega
          clear hn hL hf h5
          go_wp2_with (refine wpList_plain rfl fun K hK => wp_append (.tmp 35) (.tmp 37) 66 (by rfl) 75 _ 4 40 Tryz.underlying66 info_tok (by rfl) (by omega) _ acc.length _ (by rfl) ((HR.out.row.alloc _).alloc _) (W4.heap.size + 1) 1 1 (tcells t) (by rfl) (by rfl) 75 (by exact new_heap (W4.alloc _) _ _ (by simp)) (by simp [tcells, Value.oneCell']) (by omega) (by omega) ?_; intro v' w2 hrow hgrow hblk; have HR2 := Lib.hid (TokStep1 HR.out hrow hgrow hblk); have bkt : w2.heap[W4.heap.size]? = some (tobj t) := (tok_kept HR.out hgrow); have hbt := lt_of_block bkt; have ct0 := cell_of_heap bkt (i := 0); have ct1 := cell_of_heap bkt (i := 1); have ct2 := cell_of_heap bkt (i := 2); have ct3 := cell_of_heap bkt (i := 3); simp only [List.getElem?_toArray, List.getElem?_cons_succ, List.getElem?_cons_zero] at ct0 ct1 ct2 ct3; clear hrow hgrow hblk bkt)
          clear ct0 ct1 ct2 ct3 hbt
          try go_at_call 83
          refine (rWidth_c t w2 HTl.out).mono ?_
          rintro e w3 ⟨rfl, hb⟩
          rw [HWd.out]
          have HR3 := Lib.hid (HR2.out.keep hb)
          clear hb HR2 HR
          go_wp2_with fail
          rw [show (k : Int) + (m : Int) = ((k + m : Nat) : Int) from rfl]
          try go_at_call 62
          refine (rgap_c l (k + m) w3 (by have := HL.out; omega) n2).mono ?_
          rintro e w4 ⟨rfl, hw⟩
          subst hw
          have hge := gapE_le l (k + m) n2
          have hgk : k < gapE l (k + m) := by unfold gapE; omega
          go_wp2_with fail
          go_roundg (l.length - gapE l (k + m))
          case measure => omega
          case rel => exact ⟨gapE l (k + m), acc ++ [t], rfl, hge, rfl, by simp; omega, HN, HR3⟩
    · have He := Lib.hid (lexI_end hL.out (by omega) HL.out)
      clear hL hJ1 hK1
      go_wp2_with fail
      refine bodyPost_ret (results_tmp3 rfl _ _ _) (by rfl) ⟨.slice sa acc.length sc, ?_, ?_, hR.out.below⟩
      · rw [He.out]; rfl
      · rw [He.out]; exact toks_of_row hR.out
end Go.Proofs.YtagoefnibgobcaaGreatDoor
