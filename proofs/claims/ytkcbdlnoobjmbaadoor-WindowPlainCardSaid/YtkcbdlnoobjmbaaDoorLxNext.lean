/-
  The lexer's 'next'.
-/
import Derived.Test.YtkcbdlnoobjmbaaDoorLxGap
import Derived.Test.YtkcbdlnoobjmbaaDoorBk
namespace Go.Proofs.YtkcbdlnoobjmbaaDoor
open Go.RowKit Go.Cz Go.Cz.Lx
set_option linter.unusedSimpArgs false
set_option linter.unusedVariables false
attribute [local go_sem] bs_size bs_extract bs_append bs_toList
attribute [local irreducible] cList
def tokV (t : Tok) : Value := .agg #[.int .i64 t.kind, .int .i64 t.pos, .int .i64 t.num, .string (bs t.text)]
def nextV (i : Nat) : Except Nat (Tok × Nat) → Value
  | .ok (t, k) => .tuple #[tokV t, .int .i64 ((i + k : Nat) : Int), .int .i64 0]
  | .error e => .tuple #[.agg #[.int .i64 0, .int .i64 0, .int .i64 0, .string ⟨#[]⟩], .int .i64 0, .int .i64 (e : Int)]
/-- What is to be shown of strings.IndexAny at a quote and a line feed. -/
def IdxAny : Prop := ∀ (l : List UInt8) (w : World), l.length ≤ 20000 → Calls Tryd.prog 61 #[.string (bs l), .string ⟨#[34, 10]⟩] w fun e w' =>
    e = .returned (.int .i64 (match idxQ l with | some n => (n : Int) | none => -1)) ∧ Below w.heap.size w w'
theorem cls_quote {c : UInt8} (h : cls c = 6) : c = 34 := all_bytes (p := fun c => cls c = 6 → c = 34) (by decide +kernel) c h
theorem quote_mem {l : List UInt8} {i : Nat} (hi : i < l.length) (h : atL l i = 6) : 34 ∈ l := by
  rw [atL_some hi] at h
  rw [← cls_quote h]
  exact List.getElem_mem hi
/-- What the walk of 'next' carries. -/
structure NxE (w W : World) (b : Nat) (l : List UInt8) (g : Nat) : Prop where
  below : Below w.heap.size w W
  scan : IsScan W b (bs l)
  own : w.heap.size ≤ g
  box : Bk W g #[.int .i64 0, .int .i64 0, .int .i64 0, .string ⟨#[]⟩] 75
theorem NxE.next {w W W' : World} {b g : Nat} {l : List UInt8} (h : NxE w W b l g) (hb : Below W.heap.size W W') : Hid (NxE w W' b l g) :=
  ⟨h.below.trans (hb.mono h.below.size), h.scan.below hb, h.own, h.box.below hb⟩
theorem NxE.cells {w W : World} {b g : Nat} {l : List UInt8} (h : NxE w W b l g) : b < W.heap.size ∧ W.cell? ⟨b, 0, none⟩ = some (.string (bs l)) ∧ g < W.heap.size ∧ W.cell? ⟨g, 0, none⟩ = some (.int .i64 0) ∧ W.cell? ⟨g, 1, none⟩ = some (.int .i64 0) ∧ W.cell? ⟨g, 2, none⟩ = some (.int .i64 0) ∧ W.cell? ⟨g, 3, none⟩ = some (.string ⟨#[]⟩) ∧
    W.frozen? ⟨g, 0, none⟩ = false ∧ W.frozen? ⟨g, 1, none⟩ = false ∧ W.frozen? ⟨g, 2, none⟩ = false ∧ W.frozen? ⟨g, 3, none⟩ = false :=
  ⟨h.scan.lt, h.scan.text, h.box.lt, by rw [h.box.cell]; rfl, by rw [h.box.cell]; rfl, by rw [h.box.cell]; rfl, by rw [h.box.cell]; rfl, h.box.free 0, h.box.free 1, h.box.free 2, h.box.free 3⟩
theorem NxE.store {w W : World} {b g : Nat} {l : List UInt8} (h : NxE w W b l g) (v0 v1 v2 v3 : Value) :
    Bk ((((W.setCell ⟨g, 0, none⟩ v0).setCell ⟨g, 1, none⟩ v1).setCell ⟨g, 2, none⟩ v2).setCell ⟨g, 3, none⟩ v3) g #[v0, v1, v2, v3] 75 ∧
    Below w.heap.size w ((((W.setCell ⟨g, 0, none⟩ v0).setCell ⟨g, 1, none⟩ v1).setCell ⟨g, 2, none⟩ v2).setCell ⟨g, 3, none⟩ v3) :=
  ⟨(((h.box.set 0 v0).set 1 v1).set 2 v2).set 3 v3, (((h.below.setCell (p := ⟨g, 0, none⟩) h.own _).setCell (p := ⟨g, 1, none⟩) h.own _).setCell (p := ⟨g, 2, none⟩) h.own _).setCell (p := ⟨g, 3, none⟩) h.own _⟩
theorem hasPrefix_one (l : List UInt8) (i : Nat) : Lib.hasPrefix (l.drop (i + 1)) [61] = decide (l[i + 1]? = some 61) := by
  unfold Lib.hasPrefix
  by_cases h : i + 1 < l.length
  · rw [List.drop_eq_getElem_cons h, List.getElem?_eq_getElem h]
    simp only [List.isPrefixOf, Bool.and_true, Option.some.injEq]
    rw [Bool.eq_iff_iff, beq_iff_eq, decide_eq_true_iff]
    exact eq_comm
  · rw [List.drop_of_length_le (by omega), List.getElem?_eq_none (by omega)]
    rfl
theorem HasPrefix_c (l : List UInt8) (i : Nat) (w : World) : Calls Tryd.prog 62 #[.string (bs (l.drop (i + 1))), .string ⟨#[61]⟩] w fun e w' => e = .returned (.bool (decide (l[i + 1]? = some 61))) ∧ w' = w := by
  have := Tryd.strings_HasPrefix (bs (l.drop (i + 1))) ⟨#[61]⟩ w
  rw [show (bs (l.drop (i + 1))).data.toList = l.drop (i + 1) from bs_data _, show ((⟨#[61]⟩ : ByteArray)).data.toList = [61] from rfl, hasPrefix_one] at this
  exact this
theorem Atoi_num (l : List UInt8) (w : World) (h : ∀ c ∈ l, 48 ≤ c.toNat ∧ c.toNat ≤ 57) (h1 : 1 ≤ l.length) (h2 : l.length ≤ 13) : Calls Tryd.prog 60 #[.string (bs l)] w fun e w' => e = .returned (.tuple #[.int .i64 (numV l : Int), .nilIface]) ∧ Below w.heap.size w w' := by
  refine (Tryd.strconv_Atoi_ok (bs l) (by rw [bs_size]; omega) _ (atoi_num h h1 h2).1 w).mono ?_
  rintro e w' ⟨rfl, rfl | ⟨t, rfl⟩⟩
  · exact ⟨rfl, Below.refl _ _⟩
  · exact ⟨rfl, Lib.bytesWorld_below _ _ _⟩
theorem Next_res {W : World} {tmps : Array Value} {g : Nat} {v0 v1 v2 v3 : Value} (h4 : tmps.getD 4 undef = .pointer (some ⟨g, 0, none⟩)) (hb : Bk W g #[v0, v1, v2, v3] 75) :
    (results Tryd.f50 tmps).run Tryd.prog W = .ok (.tuple #[.agg #[v0, v1, v2, v3], tmps.getD 5 undef, tmps.getD 6 undef]) W := by
  have c0 : W.cell? ⟨g, 0, none⟩ = some v0 := by rw [hb.cell]; rfl
  have c1 : W.cell? ⟨g, 1, none⟩ = some v1 := by rw [hb.cell]; rfl
  have c2 : W.cell? ⟨g, 2, none⟩ = some v2 := by rw [hb.cell]; rfl
  have c3 : W.cell? ⟨g, 3, none⟩ = some v3 := by rw [hb.cell]; rfl
  have h4' : tmps[4]?.getD undef = .pointer (some ⟨g, 0, none⟩) := by simpa using h4
  simp [results, Tryd.results50, go_sem, h4', c0, c1, c2, c3]
theorem tk_drop' (l : List UInt8) (i : Nat) : (l.drop (i + 1)).take (l.length - (i + 1)) = l.drop (i + 1) := tk_drop l (i + 1)
set_option maxRecDepth 5000 in
set_option maxHeartbeats 4000000 in
theorem next_c (b : Nat) (l : List UInt8) (HI : 34 ∈ l → IdxAny) (i : Nat) (w : World) (hl : l.length ≤ 20000) (hi : i < l.length) (hs : IsScan w b (bs l)) :
    Calls Tryd.prog 50 #[.pointer (some ⟨b, 0, none⟩), .int .i64 (i : Int)] w fun e w' => e = .returned (nextV i (nextL l i)) ∧ Below w.heap.size w w' := by
  obtain ⟨g, hg⟩ : ∃ g, g = w.heap.size := ⟨_, rfl⟩
  have HE : Hid (NxE w (w.alloc (.cells #[.int .i64 0, .int .i64 0, .int .i64 0, .string ⟨#[]⟩] 75)) b l g) := by
    have hb : Below w.heap.size w (w.alloc (.cells #[.int .i64 0, .int .i64 0, .int .i64 0, .string ⟨#[]⟩] 75)) := (Below.refl _ _).alloc (Nat.le_refl _) _
    exact ⟨hb, hs.below hb, by omega, by rw [hg]; exact Bk.new _ _ _⟩
  have HL := Lib.hid hl
  have HI2 := Lib.hid HI
  clear hs HI
  go_enter Tryd.func50, Tryd.ntmps50
  go_wp2_with fail
  rw [← hg] at *
  clear hg
  obtain ⟨W1, hW1⟩ : ∃ W1, W1 = w.alloc (.cells #[.int .i64 0, .int .i64 0, .int .i64 0, .string ⟨#[]⟩] 75) := ⟨_, rfl⟩
  rw [← hW1] at HE ⊢
  clear hW1
  go_at_call 58
  refine (at_c b l i W1 HL.out (by omega) HE.out.scan).mono ?_
  rintro e W2 ⟨rfl, hb⟩
  replace HE := HE.out.next hb
  clear hb
  obtain ⟨z1, c0, z2, d0, d1, d2, d3, f0, f1, f2, f3⟩ := HE.out.cells
  obtain ⟨A, hA⟩ : ∃ A, A = atL l i := ⟨_, rfl⟩
  rw [← hA]
  have hA9 : A ≤ 9 := by rw [hA, atL_some hi]; exact cls_le _
  have HA := Lib.hid hA.symm
  clear hA
  by_cases h3 : A = 3
  · subst h3
    go_wp2_with fail
    clear z1 c0 z2 d0 d1 d2 d3 f0 f1 f2 f3
    have HC := IsCls.new W2 [3, 4, 5]
    have hbb : Below W2.heap.size W2 (W2.alloc (.cells #[.int .i64 3, .int .i64 4, .int .i64 5] 3)) := (Below.refl _ _).alloc (Nat.le_refl _) _
    replace HE := HE.out.next hbb
    clear hbb
    have HC2 : Hid (IsCls (W2.alloc (.cells #[.int .i64 3, .int .i64 4, .int .i64 5] 3)) W2.heap.size [3, 4, 5]) := HC
    clear HC
    go_at_call 57
    refine (while_c b W2.heap.size 3 [3, 4, 5] l i _ HL.out (by omega) (by decide) HE.out.scan HC2.out).mono ?_
    rintro e W3 ⟨rfl, hb⟩
    clear HC2
    replace HE := HE.out.next hb
    clear hb
    obtain ⟨K, hK⟩ : ∃ K, K = whileN [3, 4, 5] (l.drop i) := ⟨_, rfl⟩
    have hw := whileN_le [3, 4, 5] (l.drop i)
    rw [← hK]
    rw [← hK, List.length_drop] at hw
    have hw1 : 1 ≤ K := by
      rw [hK, whileN_drop hi, ← atL_some hi, HA.out]
      simp
    have hw2 : i + K ≤ l.length := by omega
    have HK := Lib.hid hK.symm
    clear hw hK
    obtain ⟨z1, c0, z2, d0, d1, d2, d3, f0, f1, f2, f3⟩ := HE.out.cells
    by_cases h24 : 24 < K
    · have He : Hid (nextL l i = .error 2) := by
        show _ = _
        unfold nextL
        rw [HA.out, HK.out]
        simp [h24]
      clear HA HK
      go_wp2_with fail
      refine bodyPost_ret (Next_res rfl (HE.out.store _ _ _ _).1) (by rfl) ⟨?_, (HE.out.store _ _ _ _).2⟩
      rw [He.out]
      rfl
    · have He : Hid (nextL l i = .ok (⟨1, i, 0, (l.drop i).take K⟩, K)) := by
        show _ = _
        unfold nextL
        rw [HA.out, HK.out]
        simp [h24]
      clear HA HK
      go_wp2_with fail
      refine bodyPost_ret (Next_res rfl (HE.out.store _ _ _ _).1) (by rfl) ⟨?_, (HE.out.store _ _ _ _).2⟩
      rw [He.out]
      rfl
  by_cases h4 : A = 4
  · subst h4
    go_wp2_with fail
    clear z1 c0 z2 d0 d1 d2 d3 f0 f1 f2 f3
    have HC := IsCls.new W2 [4]
    have hbb : Below W2.heap.size W2 (W2.alloc (.cells #[.int .i64 4] 3)) := (Below.refl _ _).alloc (Nat.le_refl _) _
    replace HE := HE.out.next hbb
    clear hbb
    have HC2 : Hid (IsCls (W2.alloc (.cells #[.int .i64 4] 3)) W2.heap.size [4]) := HC
    clear HC
    go_at_call 57
    refine (while_c b W2.heap.size 1 [4] l i _ HL.out (by omega) (by decide) HE.out.scan HC2.out).mono ?_
    rintro e W3 ⟨rfl, hb⟩
    clear HC2
    replace HE := HE.out.next hb
    clear hb
    obtain ⟨K, hK⟩ : ∃ K, K = whileN [4] (l.drop i) := ⟨_, rfl⟩
    have hw := whileN_le [4] (l.drop i)
    rw [← hK]
    rw [← hK, List.length_drop] at hw
    have hw1 : 1 ≤ K := by
      rw [hK, whileN_drop hi, ← atL_some hi, HA.out]
      simp
    have hw2 : i + K ≤ l.length := by omega
    have HK := Lib.hid hK.symm
    clear hw hK
    obtain ⟨z1, c0, z2, d0, d1, d2, d3, f0, f1, f2, f3⟩ := HE.out.cells
    go_wp2_with fail
    rw [show (i : Int) + (K : Int) = ((i + K : Nat) : Int) from rfl]
    clear z1 c0 z2 d0 d1 d2 d3 f0 f1 f2 f3
    go_at_call 58
    refine (at_c b l (i + K) W3 HL.out (by omega) HE.out.scan).mono ?_
    rintro e W4 ⟨rfl, hb⟩
    replace HE := HE.out.next hb
    clear hb
    obtain ⟨z1, c0, z2, d0, d1, d2, d3, f0, f1, f2, f3⟩ := HE.out.cells
    obtain ⟨B, hB⟩ : ∃ B, B = atL l (i + K) := ⟨_, rfl⟩
    rw [← hB]
    have HB := Lib.hid hB.symm
    clear hB
    by_cases h13 : 13 < K
    · have He : Hid (nextL l i = .error 4) := by
        show _ = _
        unfold nextL
        rw [HA.out, HK.out, HB.out]
        simp [h13]
      clear HA HK HB
      go_wp2_with fail
      refine bodyPost_ret (Next_res rfl (HE.out.store _ _ _ _).1) (by rfl) ⟨?_, (HE.out.store _ _ _ _).2⟩
      rw [He.out]
      rfl
    by_cases hB3 : B = 3
    · have He : Hid (nextL l i = .error 4) := by
        show _ = _
        unfold nextL
        rw [HA.out, HK.out, HB.out]
        simp [hB3]
      have q3 : ((B : Int) == 3) = true := by simp; omega
      clear HA HK HB hB3
      go_wp2_with fail
      refine bodyPost_ret (Next_res rfl (HE.out.store _ _ _ _).1) (by rfl) ⟨?_, (HE.out.store _ _ _ _).2⟩
      rw [He.out]
      rfl
    by_cases hB5 : B = 5
    · have He : Hid (nextL l i = .error 4) := by
        show _ = _
        unfold nextL
        rw [HA.out, HK.out, HB.out]
        simp [hB5]
      have q3 : ((B : Int) == 3) = false := by simp; omega
      have q5 : ((B : Int) == 5) = true := by simp; omega
      clear HA HK HB hB3 hB5
      go_wp2_with fail
      refine bodyPost_ret (Next_res rfl (HE.out.store _ _ _ _).1) (by rfl) ⟨?_, (HE.out.store _ _ _ _).2⟩
      rw [He.out]
      rfl
    have q3 : ((B : Int) == 3) = false := by simp; omega
    have q5 : ((B : Int) == 5) = false := by simp; omega
    have He : Hid (nextL l i = .ok (⟨2, i, numV ((l.drop i).take K), (l.drop i).take K⟩, K)) := by
      show _ = _
      unfold nextL
      rw [HA.out, HK.out, HB.out]
      simp [h13, hB3, hB5]
    have hlen : ((l.drop i).take K).length = K := by rw [List.length_take, List.length_drop]; omega
    have hdig : ∀ c ∈ (l.drop i).take K, 48 ≤ c.toNat ∧ c.toNat ≤ 57 := fun c hc => by
      rw [← HK.out] at hc
      have := whileN_mem hc
      exact cls_digit (by simpa using this)
    have HAt := Lib.hid fun w => Atoi_num ((l.drop i).take K) w hdig (by omega) (by omega)
    have HN : Hid (numV ((l.drop i).take K) < 10000000000000) := (atoi_num hdig (by omega) (by omega)).2
    clear HA HK HB hB3 hB5 hlen hdig
    go_wp2_with fail
    clear z1 c0 z2 d0 d1 d2 d3 f0 f1 f2 f3
    go_at_call 60
    refine (HAt.out W4).mono ?_
    rintro e W5 ⟨rfl, hb⟩
    replace HE := HE.out.next hb
    clear hb HAt
    obtain ⟨z1, c0, z2, d0, d1, d2, d3, f0, f1, f2, f3⟩ := HE.out.cells
    go_wp2_with fail
    refine bodyPost_ret (Next_res rfl (HE.out.store _ _ _ _).1) (by rfl) ⟨?_, (HE.out.store _ _ _ _).2⟩
    rw [He.out]
    rfl
  by_cases h6 : A = 6
  · subst h6
    have Hn : Hid (nextL l i = match idxQ (l.drop (i + 1)) with | none => .error 6 | some n => if (l.drop (i + 1))[n]? = some 10 then .error 6 else if 400 < n then .error 2 else .ok (⟨3, i, 0, (l.drop (i + 1)).take n⟩, n + 2)) := by
      show _ = _
      unfold nextL
      rw [HA.out]
      rfl
    have HI3 := Lib.hid (HI2.out (quote_mem hi HA.out))
    clear HA
    have hlt : (l.drop (i + 1)).length ≤ 20000 := by rw [List.length_drop]; omega
    have Hlt := Lib.hid hlt
    clear hlt
    go_wp2_with fail
    rw [tk_drop']
    clear z1 c0 z2 d0 d1 d2 d3 f0 f1 f2 f3
    go_at_call 61
    refine (HI3.out _ W2 Hlt.out).mono ?_
    rintro e W3 ⟨rfl, hb⟩
    replace HE := HE.out.next hb
    clear hb
    obtain ⟨z1, c0, z2, d0, d1, d2, d3, f0, f1, f2, f3⟩ := HE.out.cells
    rcases hq : idxQ (l.drop (i + 1)) with _ | n
    · have He : Hid (nextL l i = .error 6) := by
        have := Hn.out
        rw [hq] at this
        exact this
      clear Hn hq
      dsimp only
      go_wp2_with fail
      refine bodyPost_ret (Next_res rfl (HE.out.store _ _ _ _).1) (by rfl) ⟨?_, (HE.out.store _ _ _ _).2⟩
      rw [He.out]
      rfl
    · have hnl := idxQ_lt hq
      obtain ⟨r, hr⟩ : ∃ r, r = l.drop (i + 1) := ⟨_, rfl⟩
      have Hn2 := Hn.out
      rw [hq] at Hn2
      dsimp only at Hn2
      rw [← hr] at Hn2 hnl Hlt ⊢
      have Hr := Lib.hid hr
      clear Hn hq hr
      obtain ⟨u, hu⟩ : ∃ u, u = bs r := ⟨_, rfl⟩
      have kl : n < u.size := by rw [hu, bs_size]; exact hnl
      have hus : u.size ≤ 20000 := by rw [hu, bs_size]; exact Hlt.out
      obtain ⟨c, hc⟩ : ∃ c, u[n].toNat = c := ⟨_, rfl⟩
      have hrn : r[n]? = some (UInt8.ofNat c) := by
        subst hu
        rw [List.getElem?_eq_getElem hnl, ← hc]
        congr 1
        show r[n] = UInt8.ofNat (r[n].toNat)
        simp
      rw [← hu]
      have Hu := Lib.hid hu
      clear hu
      dsimp only
      by_cases hc10 : c = 10
      · have He : Hid (nextL l i = .error 6) := by
          show _ = _
          rw [Hn2, hrn, hc10]
          rfl
        have q10 : ((c : Int) == 10) = true := by simp; omega
        clear Hn2 hrn hc10
        go_wp2_with fail
        refine bodyPost_ret (Next_res rfl (HE.out.store _ _ _ _).1) (by rfl) ⟨?_, (HE.out.store _ _ _ _).2⟩
        rw [He.out]
        rfl
      have q10 : ((c : Int) == 10) = false := by simp; omega
      have hc256 : c < 256 := by rw [← hc]; exact UInt8.toNat_lt _
      have hne : ¬ (some (UInt8.ofNat c) = some (10 : UInt8)) := fun h => by
        injection h with h
        have := congrArg UInt8.toNat h
        simp at this
        omega
      rw [hrn, if_neg hne] at Hn2
      by_cases h400 : 400 < n
      · rw [if_pos h400] at Hn2
        have He := Lib.hid Hn2
        clear Hn2 hrn hc10 hne
        go_wp2_with fail
        refine bodyPost_ret (Next_res rfl (HE.out.store _ _ _ _).1) (by rfl) ⟨?_, (HE.out.store _ _ _ _).2⟩
        rw [He.out]
        rfl
      · rw [if_neg h400] at Hn2
        have He := Lib.hid Hn2
        have Hx : Hid (u.extract 0 n = bs (r.take n)) := by show _ = _; rw [Hu.out, bs_extract]; rfl
        clear Hn2 hrn hc10 hne
        go_wp2_with fail
        rw [Hx.out]
        refine bodyPost_ret (Next_res rfl (HE.out.store _ _ _ _).1) (by rfl) ⟨?_, (HE.out.store _ _ _ _).2⟩
        rw [He.out]
        rfl
  by_cases h7 : A = 7
  · subst h7
    go_wp2_with fail
    rw [tk_drop']
    go_at_call 62
    refine (HasPrefix_c l i W2).mono ?_
    rintro e W3 ⟨rfl, hb⟩
    obtain rfl : W3 = W2 := hb
    by_cases h61 : l[i + 1]? = some 61
    · rw [decide_eq_true h61]
      have hi1 := (List.getElem?_eq_some_iff.1 h61).1
      have He : Hid (nextL l i = .ok (⟨4, i, 0, (l.drop i).take 2⟩, 2)) := by
        show _ = _
        unfold nextL
        rw [HA.out]
        simp [h61]
      clear HA h61
      go_wp2_with fail
      refine bodyPost_ret (Next_res rfl (HE.out.store _ _ _ _).1) (by rfl) ⟨?_, (HE.out.store _ _ _ _).2⟩
      rw [He.out]
      rfl
    · rw [decide_eq_false h61]
      have He : Hid (nextL l i = .error 3) := by
        show _ = _
        unfold nextL
        rw [HA.out]
        simp [h61]
      clear HA h61
      go_wp2_with fail
      refine bodyPost_ret (Next_res rfl (HE.out.store _ _ _ _).1) (by rfl) ⟨?_, (HE.out.store _ _ _ _).2⟩
      rw [He.out]
      rfl
  by_cases h8 : A = 8
  · subst h8
    go_wp2_with fail
    rw [tk_drop']
    go_at_call 62
    refine (HasPrefix_c l i W2).mono ?_
    rintro e W3 ⟨rfl, hb⟩
    obtain rfl : W3 = W2 := hb
    by_cases h61 : l[i + 1]? = some 61
    · rw [decide_eq_true h61]
      have hi1 := (List.getElem?_eq_some_iff.1 h61).1
      have He : Hid (nextL l i = .ok (⟨4, i, 0, (l.drop i).take 2⟩, 2)) := by
        show _ = _
        unfold nextL
        rw [HA.out]
        simp [h61]
      clear HA h61
      go_wp2_with fail
      refine bodyPost_ret (Next_res rfl (HE.out.store _ _ _ _).1) (by rfl) ⟨?_, (HE.out.store _ _ _ _).2⟩
      rw [He.out]
      rfl
    · rw [decide_eq_false h61]
      have He : Hid (nextL l i = .ok (⟨4, i, 0, (l.drop i).take 1⟩, 1)) := by
        show _ = _
        unfold nextL
        rw [HA.out]
        simp [h61]
      clear HA h61
      go_wp2_with fail
      refine bodyPost_ret (Next_res rfl (HE.out.store _ _ _ _).1) (by rfl) ⟨?_, (HE.out.store _ _ _ _).2⟩
      rw [He.out]
      rfl
  by_cases h9 : A = 9
  · subst h9
    have He : Hid (nextL l i = .ok (⟨4, i, 0, (l.drop i).take 1⟩, 1)) := by
      show _ = _
      unfold nextL
      rw [HA.out]
      simp
    clear HA
    go_wp2_with fail
    refine bodyPost_ret (Next_res rfl (HE.out.store _ _ _ _).1) (by rfl) ⟨?_, (HE.out.store _ _ _ _).2⟩
    rw [He.out]
    rfl
  have He : Hid (nextL l i = .error 3) := by
    show _ = _
    unfold nextL
    rw [HA.out]
    simp [h3, h4, h6, h7, h8, h9]
  have q3 : ((A : Int) == 3) = false := by simp; omega
  have q4 : ((A : Int) == 4) = false := by simp; omega
  have q6 : ((A : Int) == 6) = false := by simp; omega
  have q7 : ((A : Int) == 7) = false := by simp; omega
  have q8 : ((A : Int) == 8) = false := by simp; omega
  have q9 : ((A : Int) == 9) = false := by simp; omega
  clear h3 h4 h6 h7 h8 h9 HA hA9
  go_wp2_with fail
  refine bodyPost_ret (Next_res rfl (HE.out.store _ _ _ _).1) (by rfl) ⟨?_, (HE.out.store _ _ _ _).2⟩
  rw [He.out]
  rfl
end Go.Proofs.YtkcbdlnoobjmbaaDoor
