/-
  The reference's 'Text' and what it calls.
-/
import Derived.Test.YtagoefnibgobcaaGreatDoorFmText
import Derived.Test.YtagoefnibgobcaaGreatDoorFmRFormed
namespace Go.Cz.Fo
open Go.Cz.Lx
theorem ten_piece {i : Nat} (h : i < 10) : (({ data := #[48, 49, 50, 51, 52, 53, 54, 55, 56, 57] } : ByteArray).extract i (i + 1)) = bs [UInt8.ofNat (48 + i)] := by
  have : ∀ i : Fin 10, (({ data := #[48, 49, 50, 51, 52, 53, 54, 55, 56, 57] } : ByteArray).extract i.1 (i.1 + 1)) = bs [UInt8.ofNat (48 + i.1)] := by decide +kernel
  exact this ⟨i, h⟩
/-- What is still to be written ahead of l. -/
def decTo (N m : Nat) (l : List UInt8) : Prop := Lib.decDigits N = (if m = 0 then [] else Lib.decDigits m) ++ l
theorem decTo_start (N : Nat) : decTo N (N / 10) [UInt8.ofNat (48 + N % 10)] := by
  unfold decTo
  rw [Lib.decDigits]
  split
  · rw [if_pos (by omega), Nat.mod_eq_of_lt ‹_›]; rfl
  · rw [if_neg (by omega)]
theorem decTo_step {N m : Nat} {l : List UInt8} (h : decTo N m l) (hm : 0 < m) : decTo N (m / 10) (UInt8.ofNat (48 + m % 10) :: l) := by
  unfold decTo at h ⊢
  rw [if_neg (by omega)] at h
  rw [h, show Lib.decDigits m = (if m / 10 = 0 then [] else Lib.decDigits (m / 10)) ++ [UInt8.ofNat (48 + m % 10)] from decTo_start m]
  simp
theorem decTo_len {N m : Nat} {l : List UInt8} (h : decTo N m l) (hN : N ≤ 1000000000) : l.length ≤ 20 := by
  have h1 := dec_le 9 N (by rw [show 10 ^ (9 + 1) = 10000000000 by decide]; omega)
  unfold decTo at h
  rw [h, List.length_append] at h1
  omega
theorem firsts_take0 {look : Fm → Nat} {ks : List Fm} {k : Nat} {q : Fm} (h : ks[k]? = some q) (h1 : firsts look (ks.take k) = 0) (h2 : firstF look q = 0) : firsts look (ks.take (k + 1)) = 0 := by
  rw [firsts_zero] at h1 ⊢
  intro r hr
  rw [List.take_add_one, h] at hr
  rcases List.mem_append.1 hr with hr | hr
  · exact h1 r hr
  · obtain rfl : r = q := by simpa using hr
    exact h2
/-- The text of the first kids. -/
def accF (o : Int) (L : List Bytes) (k : Nat) : Bytes := if o = 4 then (if k = 0 then [] else [110, 111, 116, 32] ++ joinB [] (L.take k)) else if o = 5 then joinB [32, 97, 110, 100, 32] (L.take k) else joinB [32, 111, 114, 32] (L.take k)
theorem acc_and {L : List Bytes} {k : Nat} {t : Bytes} (h : L[k]? = some t) : accF 5 L (k + 1) = accF 5 L k ++ (if 0 < k then [32, 97, 110, 100, 32] ++ t else t) := by
  have hk := (List.getElem?_eq_some_iff.1 h).1
  unfold accF
  rw [if_neg (by decide), if_pos rfl, if_neg (by decide), if_pos rfl, List.take_add_one, h]
  simp only [Option.toList_some]
  rw [joinB_snoc]
  cases k with
  | zero => simp [joinB]
  | succ k =>
    rw [if_neg (by intro h0; have := congrArg List.length h0; simp only [List.length_take, List.length_nil] at this; omega), if_pos (by omega)]
theorem acc_or {L : List Bytes} {k : Nat} {t : Bytes} (h : L[k]? = some t) : accF 6 L (k + 1) = accF 6 L k ++ (if 0 < k then [32, 111, 114, 32] ++ t else t) := by
  have hk := (List.getElem?_eq_some_iff.1 h).1
  unfold accF
  rw [if_neg (by decide), if_neg (by decide), if_neg (by decide), if_neg (by decide), List.take_add_one, h]
  simp only [Option.toList_some]
  rw [joinB_snoc]
  cases k with
  | zero => simp [joinB]
  | succ k =>
    rw [if_neg (by intro h0; have := congrArg List.length h0; simp only [List.length_take, List.length_nil] at this; omega), if_pos (by omega)]
theorem acc_le4 {L : List Bytes} {k N : Nat} (hN : N = 1) (hk : k ≤ N) : (accF 4 L k).length ≤ (accF 4 L N).length := by
  subst hN
  rcases (show k = 0 ∨ k = 1 by omega) with rfl | rfl
  · simp [accF]
  · exact Nat.le_refl _
theorem acc_le5 {L : List Bytes} {k N : Nat} (hN : L.length = N) : (accF 5 L k).length ≤ (accF 5 L N).length := by
  have e : ∀ k, accF 5 L k = joinB [32, 97, 110, 100, 32] (L.take k) := fun k => by simp [accF]
  rw [e, e, ← hN, List.take_length]
  exact joinB_take _ _ _
theorem acc_le6 {L : List Bytes} {k N : Nat} (hN : L.length = N) : (accF 6 L k).length ≤ (accF 6 L N).length := by
  have e : ∀ k, accF 6 L k = joinB [32, 111, 114, 32] (L.take k) := fun k => by simp [accF]
  rw [e, e, ← hN, List.take_length]
  exact joinB_take _ _ _
theorem acc_not {L : List Bytes} {t : Bytes} {k : Nat} (hk : k = 0) (h : L[k]? = some t) : accF 4 L (k + 1) = accF 4 L k ++ ([110, 111, 116, 32] ++ t) := by
  subst hk
  unfold accF
  rw [if_pos rfl, if_neg (by decide), List.take_add_one, h]
  simp [joinB]
end Go.Cz.Fo
namespace Go.Proofs.YtagoefnibgobcaaGreatDoor
open Go.RowKit Go.Cz Go.Cz.Lx Go.Cz.Fo
set_option linter.unusedSimpArgs false
set_option linter.unusedVariables false
attribute [local go_sem] bs_size bs_extract bs_append bs_toList
attribute [local irreducible] cList cPlan
set_option maxHeartbeats 2000000 in
theorem rdigits_c (N : Nat) (w : World) (hN : N ≤ 1000000000) : Calls Tryz.prog 94 #[.int .u64 (N : Int)] w fun e w' => e = .returned (.string (bs (Lib.decDigits N))) ∧ w' = w := by
  have hm10 : N % 10 < 10 := Nat.mod_lt _ (by omega)
  have H0 := Lib.hid (decTo_start N)
  have P0 := Lib.hid (ten_piece hm10)
  go_enter Tryz.func94, Tryz.ntmps94
  go_wp2_with fail
  rw [P0.out]
  clear hm10 P0
  go_loopg [0, 3] (N / 10) (fun gk m s wr => ∃ (k : Nat) (l : List UInt8), gk = k ∧ wr = w ∧ k ≤ N ∧ m = .int .u64 (k : Int) ∧ s = .string (bs l) ∧ Hid (decTo N k l))
  case atStart => exact ⟨N / 10, _, rfl, rfl, by omega, by go_num, rfl, H0⟩
  case round =>
    rename_i J1 K1 hJ1 hK1
    clear H0
    obtain ⟨k, l, rfl, rfl, hk, rfl, rfl, hv⟩ := hrel
    have hl := decTo_len hv.out hN
    by_cases h0 : 0 < gk
    · have hm10 : gk % 10 < 10 := Nat.mod_lt _ (by omega)
      have P1 := Lib.hid (ten_piece hm10)
      have HS := Lib.hid (decTo_step hv.out h0)
      go_wp2_with fail
      rw [P1.out]
      go_roundg (gk / 10)
      case measure => omega
      case rel => exact ⟨gk / 10, _, rfl, rfl, by omega, by go_num, by rw [bs_append]; rfl, HS⟩
    · obtain rfl : gk = 0 := by omega
      have He : Hid (Lib.decDigits N = l) := hv.out
      clear hJ1 hK1 hv
      go_wp2_with fail
      go_ret
      exact ⟨by rw [He.out]; rfl, rfl⟩
set_option maxHeartbeats 1000000 in
theorem Decimal_c (N : Nat) (w : World) (hN : N ≤ 1000000000) : Calls Tryz.prog 76 #[.int .i64 (N : Int)] w fun e w' => e = .returned (.string (bs (Lib.decDigits N))) ∧ w' = w := by
  go_enter Tryz.func76, Tryz.ntmps76
  go_wp2_with fail
  go_at_call 94
  refine (rdigits_c N w hN).mono ?_
  rintro e w1 ⟨rfl, rfl⟩
  go_wp2_with fail
  go_ret
  exact ⟨rfl, rfl⟩
abbrev symObj : Obj := .cells #[.string ⟨#[]⟩, .string ⟨#[61]⟩, .string ⟨#[33, 61]⟩, .string ⟨#[60]⟩, .string ⟨#[60, 61]⟩, .string ⟨#[62]⟩, .string ⟨#[62, 61]⟩] 9 (0, 0)
theorem comparisons_c (w : World) : Calls Tryz.prog 75 #[] w fun e w' => ∃ g, e = .returned (.slice (some ⟨g, 0, none⟩) 7 7) ∧ g = w.heap.size ∧ w' = w.alloc (.cells #[.string ⟨#[]⟩, .string ⟨#[61]⟩, .string ⟨#[33, 61]⟩, .string ⟨#[60]⟩, .string ⟨#[60, 61]⟩, .string ⟨#[62]⟩, .string ⟨#[62, 61]⟩] 9) := by
  go_enter Tryz.func75, Tryz.ntmps75
  go_wp2_with fail
  go_ret
  exact ⟨_, rfl, rfl, rfl⟩
section
variable {p : Nat → Prop}
set_option maxHeartbeats 2000000 in
theorem writable_c {lim : Nat} (hlim : lim ≤ 140737488355328) (f : Fm) : ∀ (w : World) (kv : Value), IsFm p w f kv → sizes f.kids ≤ 900000 → short lim f = true →
    Calls Tryz.prog 53 #[fval f kv] w (fun e w' => e = .returned (.bool (decide (firstF badE f = 0))) ∧ Below w.heap.size w w') := by
  refine Fm.induct (P := fun f => ∀ (w : World) (kv : Value), IsFm p w f kv → sizes f.kids ≤ 900000 → short lim f = true →
    Calls Tryz.prog 53 #[fval f kv] w (fun e w' => e = .returned (.bool (decide (firstF badE f = 0))) ∧ Below w.heap.size w w')) ?_ f
  clear f
  intro f ih w kv hf hs hsh
  have HI := Lib.hid ih
  have HS := Lib.hid hs
  have hS := length_sizes f.kids
  rw [short_kids, Bool.and_eq_true, decide_eq_true_eq] at hsh
  have HSh := Lib.hid hsh.1
  have hnl : f.name.length ≤ 140737488355328 := by omega
  have HNl := Lib.hid hnl
  clear hsh hnl
  obtain ⟨y, m, rfl⟩ := hf.form
  obtain ⟨N, hN⟩ : ∃ N, N = f.kids.length := ⟨_, rfl⟩
  have HN := Lib.hid hN
  rw [← hN] at hf ⊢
  have HF := Lib.hid hf
  clear hN hf
  obtain ⟨W1, hW1⟩ : ∃ W1, W1 = w.alloc (fobj f (.slice y N m)) := ⟨_, rfl⟩
  obtain ⟨bf, hbf⟩ : ∃ bf, bf = w.heap.size := ⟨_, rfl⟩
  have HO : Hid (Owns w W1 [blk bf (fobj f (.slice y N m))]) := by
    rw [hW1, hbf]
    exact Lib.hid ((Owns.start w).box _)
  have hN9 : N ≤ 900000 := by have := HN.out; omega
  clear hS hs ih
  have HB : Hid (badE f = if formedB f = false ∨ (f.op = 3 ∧ (f.num < 0 ∨ 1000000 < f.num)) then 1 else 0) := rfl
  have HF0 : Hid (badE f ≠ 0 → decide (firstF badE f = 0) = false) := Lib.hid fun h => by
    rw [decide_eq_false_iff_not, firstF_zero]
    exact fun h2 => h h2.1
  go_enter Tryz.func53, Tryz.ntmps53
  go_wp2_with fail
  rw [← hW1]
  try rw [← hbf]
  clear hW1 hbf
  go_at_call 66
  refine (rformed_c f W1 _ (HF.out.later HO.out.base) HNl.out).mono ?_
  rintro e W2 ⟨rfl, hb⟩
  replace HO := Lib.hid (HO.out.below hb)
  clear hb
  obtain ⟨F, hF⟩ : ∃ F, F = formedB f := ⟨_, rfl⟩
  rw [← hF] at HB ⊢
  clear hF
  cases F
  · rw [if_pos (.inl rfl)] at HB
    have HE := Lib.hid (HF0.out (by rw [HB.out]; decide))
    go_wp2_with fail
    go_ret
    exact ⟨by rw [HE.out]; rfl, HO.out.base⟩
  by_cases h3 : f.op = 3
  · have h3' : (f.op == 3) = true := by simpa using h3
    by_cases hl : f.num < 0
    · rw [if_pos (.inr ⟨h3, .inl hl⟩)] at HB
      have HE := Lib.hid (HF0.out (by rw [HB.out]; decide))
      obtain ⟨bk, -⟩ := HO.out.blk
      have hbf := lt_of_block bk
      have cb0 := cell_of_heap bk (i := 0)
      have cb1 := cell_of_heap bk (i := 1)
      have cb2 := cell_of_heap bk (i := 2)
      have cb3 := cell_of_heap bk (i := 3)
      have cb4 := cell_of_heap bk (i := 4)
      simp only [List.getElem?_toArray, List.getElem?_cons_succ, List.getElem?_cons_zero] at cb0 cb1 cb2 cb3 cb4
      clear bk
      go_wp2_with fail
      go_ret
      exact ⟨by rw [HE.out]; rfl, HO.out.base⟩
    by_cases hh : 1000000 < f.num
    · rw [if_pos (.inr ⟨h3, .inr hh⟩)] at HB
      have HE := Lib.hid (HF0.out (by rw [HB.out]; decide))
      obtain ⟨bk, -⟩ := HO.out.blk
      have hbf := lt_of_block bk
      have cb0 := cell_of_heap bk (i := 0)
      have cb1 := cell_of_heap bk (i := 1)
      have cb2 := cell_of_heap bk (i := 2)
      have cb3 := cell_of_heap bk (i := 3)
      have cb4 := cell_of_heap bk (i := 4)
      simp only [List.getElem?_toArray, List.getElem?_cons_succ, List.getElem?_cons_zero] at cb0 cb1 cb2 cb3 cb4
      clear bk
      go_wp2_with fail
      go_ret
      exact ⟨by rw [HE.out]; rfl, HO.out.base⟩
    rw [if_neg (by rintro (h | ⟨-, h⟩); · cases h
                   · omega)] at HB
    have HH : Hid (badE f = 0) := HB
    clear h3
    focus
      obtain ⟨bk, -⟩ := HO.out.blk
      have hbf := lt_of_block bk
      have cb0 := cell_of_heap bk (i := 0)
      have cb1 := cell_of_heap bk (i := 1)
      have cb2 := cell_of_heap bk (i := 2)
      have cb3 := cell_of_heap bk (i := 3)
      have cb4 := cell_of_heap bk (i := 4)
      simp only [List.getElem?_toArray, List.getElem?_cons_succ, List.getElem?_cons_zero] at cb0 cb1 cb2 cb3 cb4
      clear bk
      go_wp2_with fail
      clear cb0 cb1 cb2 cb3 cb4 hbf
    have H0 : Hid (firsts badE (f.kids.take 0) = 0) := by show _ = _; simp [firsts]
    go_loopg [3] N (fun gk i wr => ∃ k : Nat, gk = N - k ∧ k ≤ N ∧ i = .int .i64 (k : Int) ∧ Hid (firsts badE (f.kids.take k) = 0) ∧ Hid (Owns w wr [blk bf (fobj f (.slice y N m))]))
    case atStart => exact ⟨0, rfl, Nat.zero_le _, rfl, H0, HO⟩
    case round =>
      rename_i J1 K1 hJ1 hK1
      clear HO H0
      obtain ⟨k, rfl, hk, rfl, HC, HO⟩ := hrel
      by_cases hlt : k < N
      · obtain ⟨q, hq⟩ : ∃ q, f.kids[k]? = some q := ⟨_, List.getElem?_eq_getElem (by rw [← HN.out]; exact hlt)⟩
        obtain ⟨g, off, kv, rfl, hg, hkv, c0, c1, c2, c3, c4⟩ := HF.out.old HO.out.base hq
        obtain ⟨y2, m2, rfl⟩ := hkv.form
        have HQ := Lib.hid hq
        have HK := Lib.hid hkv
        clear hq hkv
        obtain ⟨N2, hN2⟩ : ∃ N2, N2 = q.kids.length := ⟨_, rfl⟩
        rw [← hN2] at c4 HK
        clear hN2
        have HLt := Lib.hid hlt
        focus
          obtain ⟨bk, -⟩ := HO.out.blk
          have hbf := lt_of_block bk
          have cb0 := cell_of_heap bk (i := 0)
          have cb1 := cell_of_heap bk (i := 1)
          have cb2 := cell_of_heap bk (i := 2)
          have cb3 := cell_of_heap bk (i := 3)
          have cb4 := cell_of_heap bk (i := 4)
          simp only [List.getElem?_toArray, List.getElem?_cons_succ, List.getElem?_cons_zero] at cb0 cb1 cb2 cb3 cb4
          clear bk
          go_wp2_with fail
          clear cb0 cb1 cb2 cb3 cb4 hbf
        refine (HI.out q (List.mem_of_getElem? HQ.out) wr _ (HK.out.later HO.out.base) (by have := HS.out; have := size_mem (List.mem_of_getElem? HQ.out); rw [size_kids] at this; omega) (short_mem HSh.out (List.mem_of_getElem? HQ.out))).mono ?_
        rintro e W2 ⟨rfl, hb⟩
        have HO2 := Lib.hid (HO.out.below hb)
        obtain ⟨x, hx⟩ : ∃ x, x = decide (firstF badE q = 0) := ⟨_, rfl⟩
        rw [← hx]
        have HX := Lib.hid hx
        clear hx hb HO c0 c1 c2 c3 c4
        cases x
        · have HE : Hid (decide (firstF badE f = 0) = false) := by
            show _ = _
            rw [decide_eq_false_iff_not, firstF_zero]
            intro h
            exact of_decide_eq_false HX.out.symm (h.2 q (List.mem_of_getElem? HQ.out))
          clear hJ1 hK1
          go_wp2_with fail
          go_ret
          exact ⟨by rw [HE.out]; rfl, HO2.out.base⟩
        · have HC2 : Hid (firsts badE (f.kids.take (k + 1)) = 0) := Lib.hid (firsts_take0 HQ.out HC.out (of_decide_eq_true HX.out.symm))
          go_wp2_with fail
          go_roundg (N - (k + 1))
          case measure => omega
          case rel => exact ⟨k + 1, rfl, by omega, by go_num, HC2, HO2⟩
      · obtain rfl : k = N := by omega
        have HE : Hid (decide (firstF badE f = 0) = true) := by
          have h1 := HC.out
          rw [HN.out, List.take_length, firsts_zero] at h1
          show _ = _
          rw [decide_eq_true_eq, firstF_zero]
          exact ⟨HH.out, h1⟩
        clear hJ1 hK1 hlt
        obtain ⟨bk, -⟩ := HO.out.blk
        have hbf := lt_of_block bk
        have cb0 := cell_of_heap bk (i := 0)
        have cb1 := cell_of_heap bk (i := 1)
        have cb2 := cell_of_heap bk (i := 2)
        have cb3 := cell_of_heap bk (i := 3)
        have cb4 := cell_of_heap bk (i := 4)
        simp only [List.getElem?_toArray, List.getElem?_cons_succ, List.getElem?_cons_zero] at cb0 cb1 cb2 cb3 cb4
        clear bk
        go_wp2_with fail
        go_ret
        exact ⟨by rw [HE.out]; rfl, HO.out.base⟩
  · have h3' : (f.op == 3) = false := by simpa using h3
    rw [if_neg (by rintro (h | ⟨h, -⟩); · cases h
                   · exact h3 h)] at HB
    have HH : Hid (badE f = 0) := HB
    clear h3
    focus
      obtain ⟨bk, -⟩ := HO.out.blk
      have hbf := lt_of_block bk
      have cb0 := cell_of_heap bk (i := 0)
      have cb1 := cell_of_heap bk (i := 1)
      have cb2 := cell_of_heap bk (i := 2)
      have cb3 := cell_of_heap bk (i := 3)
      have cb4 := cell_of_heap bk (i := 4)
      simp only [List.getElem?_toArray, List.getElem?_cons_succ, List.getElem?_cons_zero] at cb0 cb1 cb2 cb3 cb4
      clear bk
      go_wp2_with fail
      clear cb0 cb1 cb2 cb3 cb4 hbf
    have H0 : Hid (firsts badE (f.kids.take 0) = 0) := by show _ = _; simp [firsts]
    go_loopg [3] N (fun gk i wr => ∃ k : Nat, gk = N - k ∧ k ≤ N ∧ i = .int .i64 (k : Int) ∧ Hid (firsts badE (f.kids.take k) = 0) ∧ Hid (Owns w wr [blk bf (fobj f (.slice y N m))]))
    case atStart => exact ⟨0, rfl, Nat.zero_le _, rfl, H0, HO⟩
    case round =>
      rename_i J1 K1 hJ1 hK1
      clear HO H0
      obtain ⟨k, rfl, hk, rfl, HC, HO⟩ := hrel
      by_cases hlt : k < N
      · obtain ⟨q, hq⟩ : ∃ q, f.kids[k]? = some q := ⟨_, List.getElem?_eq_getElem (by rw [← HN.out]; exact hlt)⟩
        obtain ⟨g, off, kv, rfl, hg, hkv, c0, c1, c2, c3, c4⟩ := HF.out.old HO.out.base hq
        obtain ⟨y2, m2, rfl⟩ := hkv.form
        have HQ := Lib.hid hq
        have HK := Lib.hid hkv
        clear hq hkv
        obtain ⟨N2, hN2⟩ : ∃ N2, N2 = q.kids.length := ⟨_, rfl⟩
        rw [← hN2] at c4 HK
        clear hN2
        have HLt := Lib.hid hlt
        focus
          obtain ⟨bk, -⟩ := HO.out.blk
          have hbf := lt_of_block bk
          have cb0 := cell_of_heap bk (i := 0)
          have cb1 := cell_of_heap bk (i := 1)
          have cb2 := cell_of_heap bk (i := 2)
          have cb3 := cell_of_heap bk (i := 3)
          have cb4 := cell_of_heap bk (i := 4)
          simp only [List.getElem?_toArray, List.getElem?_cons_succ, List.getElem?_cons_zero] at cb0 cb1 cb2 cb3 cb4
          clear bk
          go_wp2_with fail
          clear cb0 cb1 cb2 cb3 cb4 hbf
        refine (HI.out q (List.mem_of_getElem? HQ.out) wr _ (HK.out.later HO.out.base) (by have := HS.out; have := size_mem (List.mem_of_getElem? HQ.out); rw [size_kids] at this; omega) (short_mem HSh.out (List.mem_of_getElem? HQ.out))).mono ?_
        rintro e W2 ⟨rfl, hb⟩
        have HO2 := Lib.hid (HO.out.below hb)
        obtain ⟨x, hx⟩ : ∃ x, x = decide (firstF badE q = 0) := ⟨_, rfl⟩
        rw [← hx]
        have HX := Lib.hid hx
        clear hx hb HO c0 c1 c2 c3 c4
        cases x
        · have HE : Hid (decide (firstF badE f = 0) = false) := by
            show _ = _
            rw [decide_eq_false_iff_not, firstF_zero]
            intro h
            exact of_decide_eq_false HX.out.symm (h.2 q (List.mem_of_getElem? HQ.out))
          clear hJ1 hK1
          go_wp2_with fail
          go_ret
          exact ⟨by rw [HE.out]; rfl, HO2.out.base⟩
        · have HC2 : Hid (firsts badE (f.kids.take (k + 1)) = 0) := Lib.hid (firsts_take0 HQ.out HC.out (of_decide_eq_true HX.out.symm))
          go_wp2_with fail
          go_roundg (N - (k + 1))
          case measure => omega
          case rel => exact ⟨k + 1, rfl, by omega, by go_num, HC2, HO2⟩
      · obtain rfl : k = N := by omega
        have HE : Hid (decide (firstF badE f = 0) = true) := by
          have h1 := HC.out
          rw [HN.out, List.take_length, firsts_zero] at h1
          show _ = _
          rw [decide_eq_true_eq, firstF_zero]
          exact ⟨HH.out, h1⟩
        clear hJ1 hK1 hlt
        obtain ⟨bk, -⟩ := HO.out.blk
        have hbf := lt_of_block bk
        have cb0 := cell_of_heap bk (i := 0)
        have cb1 := cell_of_heap bk (i := 1)
        have cb2 := cell_of_heap bk (i := 2)
        have cb3 := cell_of_heap bk (i := 3)
        have cb4 := cell_of_heap bk (i := 4)
        simp only [List.getElem?_toArray, List.getElem?_cons_succ, List.getElem?_cons_zero] at cb0 cb1 cb2 cb3 cb4
        clear bk
        go_wp2_with fail
        go_ret
        exact ⟨by rw [HE.out]; rfl, HO.out.base⟩
set_option maxRecDepth 100000 in
set_option maxHeartbeats 8000000 in
theorem written_c (f : Fm) : ∀ (w : World) (kv : Value), IsFm p w f kv → size f ≤ 900000 → Wr f →
    Calls Tryz.prog 54 #[fval f kv] w (fun e w' => e = .returned (.string (bs (textF Lib.itoa f))) ∧ Below w.heap.size w w') := by
  refine Fm.induct (P := fun f => ∀ (w : World) (kv : Value), IsFm p w f kv → size f ≤ 900000 → Wr f →
    Calls Tryz.prog 54 #[fval f kv] w (fun e w' => e = .returned (.string (bs (textF Lib.itoa f))) ∧ Below w.heap.size w w')) ?_ f
  clear f
  intro f ih w kv hf hz hwr
  have HI := Lib.hid ih
  have HZ := Lib.hid hz
  have HWR := Lib.hid hwr
  have hN9 := length_sizes f.kids
  rw [size_kids] at hz
  obtain ⟨y, m, rfl⟩ := hf.form
  obtain ⟨N, hN⟩ : ∃ N, N = f.kids.length := ⟨_, rfl⟩
  have HN := Lib.hid hN
  rw [← hN] at hf ⊢
  have HF := Lib.hid hf
  clear hN hf
  obtain ⟨W1, hW1⟩ : ∃ W1, W1 = w.alloc (fobj f (.slice y N m)) := ⟨_, rfl⟩
  obtain ⟨bf, hbf⟩ : ∃ bf, bf = w.heap.size := ⟨_, rfl⟩
  have HO : Hid (Owns w W1 [blk bf (fobj f (.slice y N m))]) := by
    rw [hW1, hbf]
    exact Lib.hid ((Owns.start w).box _)
  have hN9 : N ≤ 900000 := by have := HN.out; omega
  clear ih hz
  have HKc : Hid (∀ (q : Fm) (qv : Value) (W : World), q ∈ f.kids → IsFm p W q qv → Calls Tryz.prog 54 #[fval q qv] W fun e w' => e = .returned (.string (bs (textF Lib.itoa q))) ∧ Below W.heap.size W w') := by
    intro q qv W hm hq
    exact HI.out q hm W qv hq (by have := HZ.out; rw [size_kids] at this; have := size_mem hm; omega) (HWR.out.kid hm)
  have HKL : Hid (∀ q ∈ f.kids, (textF Lib.itoa q).length ≤ 60000000) := by
    intro q hm
    have h1 := (text_len q (HWR.out.kid hm)).1
    have h2 := HZ.out
    rw [size_kids] at h2
    have := size_mem hm
    omega
  have HFL : Hid ((textF Lib.itoa f).length ≤ 60000000) := by
    have h1 := (text_len f HWR.out).1
    have h2 := HZ.out
    show _ ≤ _
    omega
  have hcase := formed_cases hwr.node.1
  have hnum := hwr.node.2
  have HT := Lib.hid (textF_eq Lib.itoa f)
  clear hwr HI HZ HWR
  obtain ⟨o, ho⟩ : ∃ o, o = f.op := ⟨_, rfl⟩
  obtain ⟨mm, hmm⟩ : ∃ mm, mm = f.cmp := ⟨_, rfl⟩
  obtain ⟨x, hxx⟩ : ∃ x, x = f.num := ⟨_, rfl⟩
  obtain ⟨s, hss⟩ : ∃ s, s = f.name := ⟨_, rfl⟩
  simp only [fobj, fval] at HO hW1 ⊢
  rw [← ho, ← hmm, ← hss, ← hxx] at hcase HO hW1 HT ⊢
  rw [← ho, ← hxx] at hnum
  clear ho hmm hss hxx
  go_enter Tryz.func54, Tryz.ntmps54
  by_cases h1 : o = 1
  · subst h1
    rw [if_pos rfl] at HT
    clear hcase hnum
    go_wp2_with fail
    rw [← hW1]
    clear hW1 hbf
    go_ret
    exact ⟨by rw [HT.out]; rfl, HO.out.base⟩
  have h1' : (o == 1) = false := by simpa using h1
  rw [if_neg h1] at HT
  by_cases h2 : o = 2
  · subst h2
    rw [if_pos rfl] at HT
    clear hcase hnum
    go_wp2_with fail
    rw [← hW1]
    clear hW1 hbf
    go_ret
    exact ⟨by rw [HT.out]; rfl, HO.out.base⟩
  have h2' : (o == 2) = false := by simpa using h2
  rw [if_neg h2] at HT
  by_cases h3 : o = 3
  · subst h3
    rw [if_pos rfl] at HT
    obtain ⟨-, -, hm1, hm6, hnm, -⟩ := hcase.resolve_right (fun h => by omega)
    obtain ⟨hx0, hx1⟩ := hnum rfl
    obtain ⟨X, rfl⟩ : ∃ X : Nat, x = X := ⟨x.toNat, by omega⟩
    have hsl : s.length ≤ 24 := name_le hnm
    obtain ⟨dd, hdd⟩ : ∃ dd, dd = Lib.decDigits X := ⟨_, rfl⟩
    have hdl : dd.length ≤ 21 := by rw [hdd]; have := dec_le 9 X (by rw [show 10 ^ (9 + 1) = 10000000000 by decide]; omega); omega
    replace hdd := Lib.hid hdd
    have h16 : mm = 1 ∨ mm = 2 ∨ mm = 3 ∨ mm = 4 ∨ mm = 5 ∨ mm = 6 := by omega
    clear hcase hnum hnm hm1 hm6 h1 h2 h1' h2' hx0
    rcases h16 with rfl | rfl | rfl | rfl | rfl | rfl
    · go_wp2_with fail
      rw [← hW1]
      try rw [← hbf]
      clear hW1 hbf
      refine wp_region_can [3, 12] [0, 1, 2, 4, 5, 10, 11, 3, 6, 7, 8, 9, 12, 13, 14] (by decide +kernel) (by decide +kernel) ?_
      replace HO := Lib.hid HO.out.drew
      obtain ⟨W5, hW5⟩ : ∃ W5, W5 = W1.drew := ⟨_, rfl⟩
      rw [← hW5] at HO ⊢
      clear hW5
      obtain ⟨bk, -⟩ := HO.out.blk
      have hbf := lt_of_block bk
      have cb0 := cell_of_heap bk (i := 0)
      have cb1 := cell_of_heap bk (i := 1)
      have cb2 := cell_of_heap bk (i := 2)
      have cb3 := cell_of_heap bk (i := 3)
      have cb4 := cell_of_heap bk (i := 4)
      simp only [List.getElem?_toArray, List.getElem?_cons_succ, List.getElem?_cons_zero] at cb0 cb1 cb2 cb3 cb4
      clear bk
      iterate 7 (refine cl_do rfl rfl rfl (by first | rfl | simp [okB, lenV, plainV, Act.eval]) (fun _ _ => ?_); go_wp2_with fail)
      refine cl_call (i := 3) rfl rfl rfl (fun K hK => ?_)
      clear cb0 cb1 cb2 cb3 cb4 hbf
      go_wp2_with fail
      go_at_call 75
      refine (comparisons_c W5).mono ?_
      rintro e W6 ⟨gs, rfl, hgs, hW6⟩
      have Hb : Hid (Below W5.heap.size W5 W6) := by rw [hW6]; exact Lib.hid ((Below.refl _ _).alloc (Nat.le_refl _) _)
      have bk : W6.heap[gs]? = some symObj := by rw [hW6]; exact new_heap _ _ _ hgs
      have hgl := lt_of_block bk
      have cs := cell_of_heap bk (i := 1)
      simp only [List.getElem?_toArray, List.getElem?_cons_succ, List.getElem?_cons_zero] at cs
      replace HO := Lib.hid (HO.out.below Hb.out)
      clear hW6 hgs bk
      go_wp2_with fail
      refine And.intro Hb.out ?_
      clear Hb
      iterate 4 (refine cl_do rfl rfl rfl (by first | rfl | simp [okB, lenV, plainV, Act.eval]) (fun _ _ => ?_); go_wp2_with fail)
      refine cl_call (i := 12) rfl rfl rfl (fun K hK => ?_)
      go_wp2_with fail
      go_at_call 76
      refine (Decimal_c X W6 (by omega)).mono ?_
      rintro e W7 ⟨rfl, hw⟩
      subst hw
      rw [← hdd.out]
      clear hx1
      go_wp2_with fail
      refine And.intro (Below.refl _ _) ?_
      iterate 2 (refine cl_do rfl rfl rfl (by first | rfl | simp [okB, lenV, plainV, Act.eval]) (fun _ _ => ?_); go_wp2_with fail)
      refine cl_nil ?_
      go_wp2_with fail
      go_ret
      exact ⟨by (show Ending.returned (Value.string (bs s ++ bs [32] ++ bs _ ++ bs [32] ++ bs dd)) = _); rw [bs_append, bs_append, bs_append, bs_append, HT.out, Lib.itoa_nonneg, ← hdd.out]; simp [symB], HO.out.base⟩
    · go_wp2_with fail
      rw [← hW1]
      try rw [← hbf]
      clear hW1 hbf
      refine wp_region_can [3, 12] [0, 1, 2, 4, 5, 10, 11, 3, 6, 7, 8, 9, 12, 13, 14] (by decide +kernel) (by decide +kernel) ?_
      replace HO := Lib.hid HO.out.drew
      obtain ⟨W5, hW5⟩ : ∃ W5, W5 = W1.drew := ⟨_, rfl⟩
      rw [← hW5] at HO ⊢
      clear hW5
      obtain ⟨bk, -⟩ := HO.out.blk
      have hbf := lt_of_block bk
      have cb0 := cell_of_heap bk (i := 0)
      have cb1 := cell_of_heap bk (i := 1)
      have cb2 := cell_of_heap bk (i := 2)
      have cb3 := cell_of_heap bk (i := 3)
      have cb4 := cell_of_heap bk (i := 4)
      simp only [List.getElem?_toArray, List.getElem?_cons_succ, List.getElem?_cons_zero] at cb0 cb1 cb2 cb3 cb4
      clear bk
      iterate 7 (refine cl_do rfl rfl rfl (by first | rfl | simp [okB, lenV, plainV, Act.eval]) (fun _ _ => ?_); go_wp2_with fail)
      refine cl_call (i := 3) rfl rfl rfl (fun K hK => ?_)
      clear cb0 cb1 cb2 cb3 cb4 hbf
      go_wp2_with fail
      go_at_call 75
      refine (comparisons_c W5).mono ?_
      rintro e W6 ⟨gs, rfl, hgs, hW6⟩
      have Hb : Hid (Below W5.heap.size W5 W6) := by rw [hW6]; exact Lib.hid ((Below.refl _ _).alloc (Nat.le_refl _) _)
      have bk : W6.heap[gs]? = some symObj := by rw [hW6]; exact new_heap _ _ _ hgs
      have hgl := lt_of_block bk
      have cs := cell_of_heap bk (i := 2)
      simp only [List.getElem?_toArray, List.getElem?_cons_succ, List.getElem?_cons_zero] at cs
      replace HO := Lib.hid (HO.out.below Hb.out)
      clear hW6 hgs bk
      go_wp2_with fail
      refine And.intro Hb.out ?_
      clear Hb
      iterate 4 (refine cl_do rfl rfl rfl (by first | rfl | simp [okB, lenV, plainV, Act.eval]) (fun _ _ => ?_); go_wp2_with fail)
      refine cl_call (i := 12) rfl rfl rfl (fun K hK => ?_)
      go_wp2_with fail
      go_at_call 76
      refine (Decimal_c X W6 (by omega)).mono ?_
      rintro e W7 ⟨rfl, hw⟩
      subst hw
      rw [← hdd.out]
      clear hx1
      go_wp2_with fail
      refine And.intro (Below.refl _ _) ?_
      iterate 2 (refine cl_do rfl rfl rfl (by first | rfl | simp [okB, lenV, plainV, Act.eval]) (fun _ _ => ?_); go_wp2_with fail)
      refine cl_nil ?_
      go_wp2_with fail
      go_ret
      exact ⟨by (show Ending.returned (Value.string (bs s ++ bs [32] ++ bs _ ++ bs [32] ++ bs dd)) = _); rw [bs_append, bs_append, bs_append, bs_append, HT.out, Lib.itoa_nonneg, ← hdd.out]; simp [symB], HO.out.base⟩
    · go_wp2_with fail
      rw [← hW1]
      try rw [← hbf]
      clear hW1 hbf
      refine wp_region_can [3, 12] [0, 1, 2, 4, 5, 10, 11, 3, 6, 7, 8, 9, 12, 13, 14] (by decide +kernel) (by decide +kernel) ?_
      replace HO := Lib.hid HO.out.drew
      obtain ⟨W5, hW5⟩ : ∃ W5, W5 = W1.drew := ⟨_, rfl⟩
      rw [← hW5] at HO ⊢
      clear hW5
      obtain ⟨bk, -⟩ := HO.out.blk
      have hbf := lt_of_block bk
      have cb0 := cell_of_heap bk (i := 0)
      have cb1 := cell_of_heap bk (i := 1)
      have cb2 := cell_of_heap bk (i := 2)
      have cb3 := cell_of_heap bk (i := 3)
      have cb4 := cell_of_heap bk (i := 4)
      simp only [List.getElem?_toArray, List.getElem?_cons_succ, List.getElem?_cons_zero] at cb0 cb1 cb2 cb3 cb4
      clear bk
      iterate 7 (refine cl_do rfl rfl rfl (by first | rfl | simp [okB, lenV, plainV, Act.eval]) (fun _ _ => ?_); go_wp2_with fail)
      refine cl_call (i := 3) rfl rfl rfl (fun K hK => ?_)
      clear cb0 cb1 cb2 cb3 cb4 hbf
      go_wp2_with fail
      go_at_call 75
      refine (comparisons_c W5).mono ?_
      rintro e W6 ⟨gs, rfl, hgs, hW6⟩
      have Hb : Hid (Below W5.heap.size W5 W6) := by rw [hW6]; exact Lib.hid ((Below.refl _ _).alloc (Nat.le_refl _) _)
      have bk : W6.heap[gs]? = some symObj := by rw [hW6]; exact new_heap _ _ _ hgs
      have hgl := lt_of_block bk
      have cs := cell_of_heap bk (i := 3)
      simp only [List.getElem?_toArray, List.getElem?_cons_succ, List.getElem?_cons_zero] at cs
      replace HO := Lib.hid (HO.out.below Hb.out)
      clear hW6 hgs bk
      go_wp2_with fail
      refine And.intro Hb.out ?_
      clear Hb
      iterate 4 (refine cl_do rfl rfl rfl (by first | rfl | simp [okB, lenV, plainV, Act.eval]) (fun _ _ => ?_); go_wp2_with fail)
      refine cl_call (i := 12) rfl rfl rfl (fun K hK => ?_)
      go_wp2_with fail
      go_at_call 76
      refine (Decimal_c X W6 (by omega)).mono ?_
      rintro e W7 ⟨rfl, hw⟩
      subst hw
      rw [← hdd.out]
      clear hx1
      go_wp2_with fail
      refine And.intro (Below.refl _ _) ?_
      iterate 2 (refine cl_do rfl rfl rfl (by first | rfl | simp [okB, lenV, plainV, Act.eval]) (fun _ _ => ?_); go_wp2_with fail)
      refine cl_nil ?_
      go_wp2_with fail
      go_ret
      exact ⟨by (show Ending.returned (Value.string (bs s ++ bs [32] ++ bs _ ++ bs [32] ++ bs dd)) = _); rw [bs_append, bs_append, bs_append, bs_append, HT.out, Lib.itoa_nonneg, ← hdd.out]; simp [symB], HO.out.base⟩
    · go_wp2_with fail
      rw [← hW1]
      try rw [← hbf]
      clear hW1 hbf
      refine wp_region_can [3, 12] [0, 1, 2, 4, 5, 10, 11, 3, 6, 7, 8, 9, 12, 13, 14] (by decide +kernel) (by decide +kernel) ?_
      replace HO := Lib.hid HO.out.drew
      obtain ⟨W5, hW5⟩ : ∃ W5, W5 = W1.drew := ⟨_, rfl⟩
      rw [← hW5] at HO ⊢
      clear hW5
      obtain ⟨bk, -⟩ := HO.out.blk
      have hbf := lt_of_block bk
      have cb0 := cell_of_heap bk (i := 0)
      have cb1 := cell_of_heap bk (i := 1)
      have cb2 := cell_of_heap bk (i := 2)
      have cb3 := cell_of_heap bk (i := 3)
      have cb4 := cell_of_heap bk (i := 4)
      simp only [List.getElem?_toArray, List.getElem?_cons_succ, List.getElem?_cons_zero] at cb0 cb1 cb2 cb3 cb4
      clear bk
      iterate 7 (refine cl_do rfl rfl rfl (by first | rfl | simp [okB, lenV, plainV, Act.eval]) (fun _ _ => ?_); go_wp2_with fail)
      refine cl_call (i := 3) rfl rfl rfl (fun K hK => ?_)
      clear cb0 cb1 cb2 cb3 cb4 hbf
      go_wp2_with fail
      go_at_call 75
      refine (comparisons_c W5).mono ?_
      rintro e W6 ⟨gs, rfl, hgs, hW6⟩
      have Hb : Hid (Below W5.heap.size W5 W6) := by rw [hW6]; exact Lib.hid ((Below.refl _ _).alloc (Nat.le_refl _) _)
      have bk : W6.heap[gs]? = some symObj := by rw [hW6]; exact new_heap _ _ _ hgs
      have hgl := lt_of_block bk
      have cs := cell_of_heap bk (i := 4)
      simp only [List.getElem?_toArray, List.getElem?_cons_succ, List.getElem?_cons_zero] at cs
      replace HO := Lib.hid (HO.out.below Hb.out)
      clear hW6 hgs bk
      go_wp2_with fail
      refine And.intro Hb.out ?_
      clear Hb
      iterate 4 (refine cl_do rfl rfl rfl (by first | rfl | simp [okB, lenV, plainV, Act.eval]) (fun _ _ => ?_); go_wp2_with fail)
      refine cl_call (i := 12) rfl rfl rfl (fun K hK => ?_)
      go_wp2_with fail
      go_at_call 76
      refine (Decimal_c X W6 (by omega)).mono ?_
      rintro e W7 ⟨rfl, hw⟩
      subst hw
      rw [← hdd.out]
      clear hx1
      go_wp2_with fail
      refine And.intro (Below.refl _ _) ?_
      iterate 2 (refine cl_do rfl rfl rfl (by first | rfl | simp [okB, lenV, plainV, Act.eval]) (fun _ _ => ?_); go_wp2_with fail)
      refine cl_nil ?_
      go_wp2_with fail
      go_ret
      exact ⟨by (show Ending.returned (Value.string (bs s ++ bs [32] ++ bs _ ++ bs [32] ++ bs dd)) = _); rw [bs_append, bs_append, bs_append, bs_append, HT.out, Lib.itoa_nonneg, ← hdd.out]; simp [symB], HO.out.base⟩
    · go_wp2_with fail
      rw [← hW1]
      try rw [← hbf]
      clear hW1 hbf
      refine wp_region_can [3, 12] [0, 1, 2, 4, 5, 10, 11, 3, 6, 7, 8, 9, 12, 13, 14] (by decide +kernel) (by decide +kernel) ?_
      replace HO := Lib.hid HO.out.drew
      obtain ⟨W5, hW5⟩ : ∃ W5, W5 = W1.drew := ⟨_, rfl⟩
      rw [← hW5] at HO ⊢
      clear hW5
      obtain ⟨bk, -⟩ := HO.out.blk
      have hbf := lt_of_block bk
      have cb0 := cell_of_heap bk (i := 0)
      have cb1 := cell_of_heap bk (i := 1)
      have cb2 := cell_of_heap bk (i := 2)
      have cb3 := cell_of_heap bk (i := 3)
      have cb4 := cell_of_heap bk (i := 4)
      simp only [List.getElem?_toArray, List.getElem?_cons_succ, List.getElem?_cons_zero] at cb0 cb1 cb2 cb3 cb4
      clear bk
      iterate 7 (refine cl_do rfl rfl rfl (by first | rfl | simp [okB, lenV, plainV, Act.eval]) (fun _ _ => ?_); go_wp2_with fail)
      refine cl_call (i := 3) rfl rfl rfl (fun K hK => ?_)
      clear cb0 cb1 cb2 cb3 cb4 hbf
      go_wp2_with fail
      go_at_call 75
      refine (comparisons_c W5).mono ?_
      rintro e W6 ⟨gs, rfl, hgs, hW6⟩
      have Hb : Hid (Below W5.heap.size W5 W6) := by rw [hW6]; exact Lib.hid ((Below.refl _ _).alloc (Nat.le_refl _) _)
      have bk : W6.heap[gs]? = some symObj := by rw [hW6]; exact new_heap _ _ _ hgs
      have hgl := lt_of_block bk
      have cs := cell_of_heap bk (i := 5)
      simp only [List.getElem?_toArray, List.getElem?_cons_succ, List.getElem?_cons_zero] at cs
      replace HO := Lib.hid (HO.out.below Hb.out)
      clear hW6 hgs bk
      go_wp2_with fail
      refine And.intro Hb.out ?_
      clear Hb
      iterate 4 (refine cl_do rfl rfl rfl (by first | rfl | simp [okB, lenV, plainV, Act.eval]) (fun _ _ => ?_); go_wp2_with fail)
      refine cl_call (i := 12) rfl rfl rfl (fun K hK => ?_)
      go_wp2_with fail
      go_at_call 76
      refine (Decimal_c X W6 (by omega)).mono ?_
      rintro e W7 ⟨rfl, hw⟩
      subst hw
      rw [← hdd.out]
      clear hx1
      go_wp2_with fail
      refine And.intro (Below.refl _ _) ?_
      iterate 2 (refine cl_do rfl rfl rfl (by first | rfl | simp [okB, lenV, plainV, Act.eval]) (fun _ _ => ?_); go_wp2_with fail)
      refine cl_nil ?_
      go_wp2_with fail
      go_ret
      exact ⟨by (show Ending.returned (Value.string (bs s ++ bs [32] ++ bs _ ++ bs [32] ++ bs dd)) = _); rw [bs_append, bs_append, bs_append, bs_append, HT.out, Lib.itoa_nonneg, ← hdd.out]; simp [symB], HO.out.base⟩
    · go_wp2_with fail
      rw [← hW1]
      try rw [← hbf]
      clear hW1 hbf
      refine wp_region_can [3, 12] [0, 1, 2, 4, 5, 10, 11, 3, 6, 7, 8, 9, 12, 13, 14] (by decide +kernel) (by decide +kernel) ?_
      replace HO := Lib.hid HO.out.drew
      obtain ⟨W5, hW5⟩ : ∃ W5, W5 = W1.drew := ⟨_, rfl⟩
      rw [← hW5] at HO ⊢
      clear hW5
      obtain ⟨bk, -⟩ := HO.out.blk
      have hbf := lt_of_block bk
      have cb0 := cell_of_heap bk (i := 0)
      have cb1 := cell_of_heap bk (i := 1)
      have cb2 := cell_of_heap bk (i := 2)
      have cb3 := cell_of_heap bk (i := 3)
      have cb4 := cell_of_heap bk (i := 4)
      simp only [List.getElem?_toArray, List.getElem?_cons_succ, List.getElem?_cons_zero] at cb0 cb1 cb2 cb3 cb4
      clear bk
      iterate 7 (refine cl_do rfl rfl rfl (by first | rfl | simp [okB, lenV, plainV, Act.eval]) (fun _ _ => ?_); go_wp2_with fail)
      refine cl_call (i := 3) rfl rfl rfl (fun K hK => ?_)
      clear cb0 cb1 cb2 cb3 cb4 hbf
      go_wp2_with fail
      go_at_call 75
      refine (comparisons_c W5).mono ?_
      rintro e W6 ⟨gs, rfl, hgs, hW6⟩
      have Hb : Hid (Below W5.heap.size W5 W6) := by rw [hW6]; exact Lib.hid ((Below.refl _ _).alloc (Nat.le_refl _) _)
      have bk : W6.heap[gs]? = some symObj := by rw [hW6]; exact new_heap _ _ _ hgs
      have hgl := lt_of_block bk
      have cs := cell_of_heap bk (i := 6)
      simp only [List.getElem?_toArray, List.getElem?_cons_succ, List.getElem?_cons_zero] at cs
      replace HO := Lib.hid (HO.out.below Hb.out)
      clear hW6 hgs bk
      go_wp2_with fail
      refine And.intro Hb.out ?_
      clear Hb
      iterate 4 (refine cl_do rfl rfl rfl (by first | rfl | simp [okB, lenV, plainV, Act.eval]) (fun _ _ => ?_); go_wp2_with fail)
      refine cl_call (i := 12) rfl rfl rfl (fun K hK => ?_)
      go_wp2_with fail
      go_at_call 76
      refine (Decimal_c X W6 (by omega)).mono ?_
      rintro e W7 ⟨rfl, hw⟩
      subst hw
      rw [← hdd.out]
      clear hx1
      go_wp2_with fail
      refine And.intro (Below.refl _ _) ?_
      iterate 2 (refine cl_do rfl rfl rfl (by first | rfl | simp [okB, lenV, plainV, Act.eval]) (fun _ _ => ?_); go_wp2_with fail)
      refine cl_nil ?_
      go_wp2_with fail
      go_ret
      exact ⟨by (show Ending.returned (Value.string (bs s ++ bs [32] ++ bs _ ++ bs [32] ++ bs dd)) = _); rw [bs_append, bs_append, bs_append, bs_append, HT.out, Lib.itoa_nonneg, ← hdd.out]; simp [symB], HO.out.base⟩
  have h3' : (o == 3) = false := by simpa using h3
  rw [if_neg h3] at HT
  have hcase2 := (hcase.resolve_left (fun h => h3 h.1)).2
  have h456 : (o = 4 ∧ N = 1) ∨ ((o = 5 ∨ o = 6) ∧ 2 ≤ N) := by
    rw [HN.out]
    rcases hcase2 with h | ⟨h, k, hk⟩ | ⟨h, a, b, r, hk⟩
    · omega
    · exact .inl ⟨h, by rw [hk]; rfl⟩
    · exact .inr ⟨h, by rw [hk]; simp⟩
  have H456 := Lib.hid h456
  clear hcase hcase2 hnum h456
  go_wp2_with fail
  rw [← hW1]
  try rw [← hbf]
  clear hW1 hbf
  obtain ⟨L, hL⟩ : ∃ L, L = textKids Lib.itoa o f.kids := ⟨_, rfl⟩
  have HL := Lib.hid hL
  have HLl : Hid (L.length = N) := by show _ = _; rw [hL, textKids_length, HN.out]
  rw [← hL] at HT
  clear hL
  focus
    obtain ⟨bk, -⟩ := HO.out.blk
    have hbf := lt_of_block bk
    have cb0 := cell_of_heap bk (i := 0)
    have cb1 := cell_of_heap bk (i := 1)
    have cb2 := cell_of_heap bk (i := 2)
    have cb3 := cell_of_heap bk (i := 3)
    have cb4 := cell_of_heap bk (i := 4)
    simp only [List.getElem?_toArray, List.getElem?_cons_succ, List.getElem?_cons_zero] at cb0 cb1 cb2 cb3 cb4
    clear bk
    go_wp2_with fail
    clear cb0 cb1 cb2 cb3 cb4 hbf
  rcases H456.out with ⟨rfl, hN1⟩ | ⟨rfl | rfl, hN2⟩
  · have HFin : Hid (accF 4 L N = textF Lib.itoa f) := by
      show _ = _
      rw [HT.out, hN1]
      simp [accF]
    clear h1 h2 h3 h1' h2' h3' H456
    have HN1 := Lib.hid hN1
    clear hN1
    -- o is 4
    have HAl : Hid (∀ k, k ≤ N → (accF 4 L k).length ≤ 60000000) := Lib.hid fun k hk => by
      have h1 := HFL.out
      rw [← HFin.out] at h1
      exact Nat.le_trans (acc_le4 HN1.out hk) h1
    have H0 : Hid (([] : Bytes) = accF 4 L 0) := Lib.hid (by simp [accF, joinB])
    go_loopg [3, 4] N (fun gk s' i wr => ∃ (k : Nat) (a : Bytes), gk = N - k ∧ k ≤ N ∧ i = .int .i64 (k : Int) ∧ s' = .string (bs a) ∧ Hid (a = accF 4 L k) ∧ Hid (Owns w wr [blk bf (.cells #[.int .i64 4, .string (bs s), .int .i64 mm, .int .i64 x, .slice y N m] 24 (0, 0))]))
    case atStart => exact ⟨0, [], rfl, Nat.zero_le _, rfl, rfl, H0, HO⟩
    case round =>
      rename_i J1 K1 hJ1 hK1
      clear HO H0
      obtain ⟨k, a, rfl, hk, rfl, rfl, HA, HO⟩ := hrel
      have hal : a.length ≤ 60000000 := by rw [HA.out]; exact HAl.out k hk
      by_cases hlt : k < N
      · obtain ⟨q, hq⟩ : ∃ q, f.kids[k]? = some q := ⟨_, List.getElem?_eq_getElem (by rw [← HN.out]; exact hlt)⟩
        obtain ⟨g, off, kv, rfl, hg, hkv, c0, c1, c2, c3, c4⟩ := HF.out.old HO.out.base hq
        obtain ⟨y2, m2, rfl⟩ := hkv.form
        have HQ := Lib.hid hq
        have HK := Lib.hid hkv
        clear hq hkv
        obtain ⟨N2, hN2⟩ : ∃ N2, N2 = q.kids.length := ⟨_, rfl⟩
        rw [← hN2] at c4 HK
        clear hN2
        have HLt := Lib.hid hlt
        focus
          obtain ⟨bk, -⟩ := HO.out.blk
          have hbf := lt_of_block bk
          have cb0 := cell_of_heap bk (i := 0)
          have cb1 := cell_of_heap bk (i := 1)
          have cb2 := cell_of_heap bk (i := 2)
          have cb3 := cell_of_heap bk (i := 3)
          have cb4 := cell_of_heap bk (i := 4)
          simp only [List.getElem?_toArray, List.getElem?_cons_succ, List.getElem?_cons_zero] at cb0 cb1 cb2 cb3 cb4
          clear bk
          go_wp2_with fail
          clear cb0 cb1 cb2 cb3 cb4 hbf
        refine (HKc.out q _ wr (List.mem_of_getElem? HQ.out) (HK.out.later HO.out.base)).mono ?_
        rintro e W5 ⟨rfl, hb⟩
        have c0' := (hb.cell (p := ⟨g, off + k * 5, none⟩) hg).trans c0
        have hg' := Nat.lt_of_lt_of_le hg hb.size
        replace HO := Lib.hid (HO.out.below hb)
        clear c0 c1 c2 c3 c4 hg hb
        have htl := HKL.out q (List.mem_of_getElem? HQ.out)
        have hlk : L[k]? = some (parT (parB 4 q.op) (textF Lib.itoa q)) := by rw [HL.out, textKids_eq, List.getElem?_map, HQ.out]; rfl
        have HLk := Lib.hid hlk
        clear hlk
        obtain ⟨t, ht⟩ : ∃ t, t = textF Lib.itoa q := ⟨_, rfl⟩
        rw [← ht] at htl HLk ⊢
        clear ht
        obtain ⟨oq, hoq⟩ : ∃ oq, oq = q.op := ⟨_, rfl⟩
        rw [← hoq] at c0' HLk
        clear hoq
        by_cases h6 : oq = 6
        · subst h6
          have HPT : Hid (parT (parB 4 6) t = [40] ++ (t ++ [41])) := Lib.hid rfl
          -- the kid's text is ([40] ++ (t ++ [41]))
          have HA2 : Hid (accF 4 L (k + 1) = a ++ ([110, 111, 116, 32] ++ (([40] ++ (t ++ [41]))))) := by
            show _ = _
            rw [(acc_not (by have := HN1.out; omega) HLk.out), HPT.out, ← HA.out]
            try rw [if_pos (show 0 < k by omega)]
            try rw [if_neg (show ¬ 0 < k by omega)]
            try rfl
          focus
            obtain ⟨bk, -⟩ := HO.out.blk
            have hbf := lt_of_block bk
            have cb0 := cell_of_heap bk (i := 0)
            have cb1 := cell_of_heap bk (i := 1)
            have cb2 := cell_of_heap bk (i := 2)
            have cb3 := cell_of_heap bk (i := 3)
            have cb4 := cell_of_heap bk (i := 4)
            simp only [List.getElem?_toArray, List.getElem?_cons_succ, List.getElem?_cons_zero] at cb0 cb1 cb2 cb3 cb4
            clear bk
            go_wp2_with fail
            go_roundg (N - (k + 1))
            case measure => omega
            case rel => exact ⟨k + 1, _, rfl, by omega, by go_num, rfl, Lib.hid (by rw [HA2.out] <;> simp [bs_data]), HO⟩
        have h6' : (oq == 6) = false := by simpa using h6
        by_cases h5 : oq = 5
        · subst h5
          have HPT : Hid (parT (parB 4 5) t = ([40] ++ (t ++ [41]))) := Lib.hid rfl
          -- the kid's text is ([40] ++ (t ++ [41]))
          have HA2 : Hid (accF 4 L (k + 1) = a ++ ([110, 111, 116, 32] ++ (([40] ++ (t ++ [41]))))) := by
            show _ = _
            rw [(acc_not (by have := HN1.out; omega) HLk.out), HPT.out, ← HA.out]
            try rw [if_pos (show 0 < k by omega)]
            try rw [if_neg (show ¬ 0 < k by omega)]
            try rfl
          focus
            obtain ⟨bk, -⟩ := HO.out.blk
            have hbf := lt_of_block bk
            have cb0 := cell_of_heap bk (i := 0)
            have cb1 := cell_of_heap bk (i := 1)
            have cb2 := cell_of_heap bk (i := 2)
            have cb3 := cell_of_heap bk (i := 3)
            have cb4 := cell_of_heap bk (i := 4)
            simp only [List.getElem?_toArray, List.getElem?_cons_succ, List.getElem?_cons_zero] at cb0 cb1 cb2 cb3 cb4
            clear bk
            go_wp2_with fail
            go_roundg (N - (k + 1))
            case measure => omega
            case rel => exact ⟨k + 1, _, rfl, by omega, by go_num, rfl, Lib.hid (by rw [HA2.out] <;> simp [bs_data]), HO⟩
        · have h5' : (oq == 5) = false := by simpa using h5
          have HPT : Hid (parT (parB 4 oq) t = t) := by
            show _ = _
            rw [parB]
            simp [h5, h6, parT]
          clear h5 h6
          -- the kid's text is t
          have HA2 : Hid (accF 4 L (k + 1) = a ++ ([110, 111, 116, 32] ++ (t))) := by
            show _ = _
            rw [(acc_not (by have := HN1.out; omega) HLk.out), HPT.out, ← HA.out]
            try rw [if_pos (show 0 < k by omega)]
            try rw [if_neg (show ¬ 0 < k by omega)]
            try rfl
          focus
            obtain ⟨bk, -⟩ := HO.out.blk
            have hbf := lt_of_block bk
            have cb0 := cell_of_heap bk (i := 0)
            have cb1 := cell_of_heap bk (i := 1)
            have cb2 := cell_of_heap bk (i := 2)
            have cb3 := cell_of_heap bk (i := 3)
            have cb4 := cell_of_heap bk (i := 4)
            simp only [List.getElem?_toArray, List.getElem?_cons_succ, List.getElem?_cons_zero] at cb0 cb1 cb2 cb3 cb4
            clear bk
            go_wp2_with fail
            go_roundg (N - (k + 1))
            case measure => omega
            case rel => exact ⟨k + 1, _, rfl, by omega, by go_num, rfl, Lib.hid (by rw [HA2.out] <;> simp [bs_data]), HO⟩
      · obtain rfl : k = N := by omega
        have HE : Hid (textF Lib.itoa f = a) := by show _ = _; rw [← HFin.out, HA.out]
        clear hJ1 hK1 hlt HA
        obtain ⟨bk, -⟩ := HO.out.blk
        have hbf := lt_of_block bk
        have cb0 := cell_of_heap bk (i := 0)
        have cb1 := cell_of_heap bk (i := 1)
        have cb2 := cell_of_heap bk (i := 2)
        have cb3 := cell_of_heap bk (i := 3)
        have cb4 := cell_of_heap bk (i := 4)
        simp only [List.getElem?_toArray, List.getElem?_cons_succ, List.getElem?_cons_zero] at cb0 cb1 cb2 cb3 cb4
        clear bk
        go_wp2_with fail
        go_ret
        exact ⟨by rw [HE.out]; rfl, HO.out.base⟩
  · have HFin : Hid (accF 5 L N = textF Lib.itoa f) := by
      show _ = _
      rw [HT.out, ← HLl.out]
      simp [accF]
    clear h1 h2 h3 h1' h2' h3' H456
    -- o is 5
    have HAl : Hid (∀ k, k ≤ N → (accF 5 L k).length ≤ 60000000) := Lib.hid fun k hk => by
      have h1 := HFL.out
      rw [← HFin.out] at h1
      exact Nat.le_trans (acc_le5 HLl.out) h1
    have H0 : Hid (([] : Bytes) = accF 5 L 0) := Lib.hid (by simp [accF, joinB])
    go_loopg [3, 4] N (fun gk s' i wr => ∃ (k : Nat) (a : Bytes), gk = N - k ∧ k ≤ N ∧ i = .int .i64 (k : Int) ∧ s' = .string (bs a) ∧ Hid (a = accF 5 L k) ∧ Hid (Owns w wr [blk bf (.cells #[.int .i64 5, .string (bs s), .int .i64 mm, .int .i64 x, .slice y N m] 24 (0, 0))]))
    case atStart => exact ⟨0, [], rfl, Nat.zero_le _, rfl, rfl, H0, HO⟩
    case round =>
      rename_i J1 K1 hJ1 hK1
      clear HO H0
      obtain ⟨k, a, rfl, hk, rfl, rfl, HA, HO⟩ := hrel
      have hal : a.length ≤ 60000000 := by rw [HA.out]; exact HAl.out k hk
      by_cases hlt : k < N
      · obtain ⟨q, hq⟩ : ∃ q, f.kids[k]? = some q := ⟨_, List.getElem?_eq_getElem (by rw [← HN.out]; exact hlt)⟩
        obtain ⟨g, off, kv, rfl, hg, hkv, c0, c1, c2, c3, c4⟩ := HF.out.old HO.out.base hq
        obtain ⟨y2, m2, rfl⟩ := hkv.form
        have HQ := Lib.hid hq
        have HK := Lib.hid hkv
        clear hq hkv
        obtain ⟨N2, hN2⟩ : ∃ N2, N2 = q.kids.length := ⟨_, rfl⟩
        rw [← hN2] at c4 HK
        clear hN2
        have HLt := Lib.hid hlt
        focus
          obtain ⟨bk, -⟩ := HO.out.blk
          have hbf := lt_of_block bk
          have cb0 := cell_of_heap bk (i := 0)
          have cb1 := cell_of_heap bk (i := 1)
          have cb2 := cell_of_heap bk (i := 2)
          have cb3 := cell_of_heap bk (i := 3)
          have cb4 := cell_of_heap bk (i := 4)
          simp only [List.getElem?_toArray, List.getElem?_cons_succ, List.getElem?_cons_zero] at cb0 cb1 cb2 cb3 cb4
          clear bk
          go_wp2_with fail
          clear cb0 cb1 cb2 cb3 cb4 hbf
        refine (HKc.out q _ wr (List.mem_of_getElem? HQ.out) (HK.out.later HO.out.base)).mono ?_
        rintro e W5 ⟨rfl, hb⟩
        have c0' := (hb.cell (p := ⟨g, off + k * 5, none⟩) hg).trans c0
        have hg' := Nat.lt_of_lt_of_le hg hb.size
        replace HO := Lib.hid (HO.out.below hb)
        clear c0 c1 c2 c3 c4 hg hb
        have htl := HKL.out q (List.mem_of_getElem? HQ.out)
        have hlk : L[k]? = some (parT (parB 5 q.op) (textF Lib.itoa q)) := by rw [HL.out, textKids_eq, List.getElem?_map, HQ.out]; rfl
        have HLk := Lib.hid hlk
        clear hlk
        obtain ⟨t, ht⟩ : ∃ t, t = textF Lib.itoa q := ⟨_, rfl⟩
        rw [← ht] at htl HLk ⊢
        clear ht
        obtain ⟨oq, hoq⟩ : ∃ oq, oq = q.op := ⟨_, rfl⟩
        rw [← hoq] at c0' HLk
        clear hoq
        by_cases h6 : oq = 6
        · subst h6
          have HPT : Hid (parT (parB 5 6) t = [40] ++ (t ++ [41])) := Lib.hid rfl
          by_cases hk0 : k = 0
          · subst hk0
            simp only [Nat.zero_mul, Nat.add_zero] at c0'
            -- the kid's text is ([40] ++ (t ++ [41]))
            have HA2 : Hid (accF 5 L (0 + 1) = a ++ (([40] ++ (t ++ [41])))) := by
              show _ = _
              rw [acc_and HLk.out, HPT.out, ← HA.out]
              try rw [if_pos (show 0 < 0 by omega)]
              try rw [if_neg (show ¬ 0 < 0 by omega)]
              try rfl
            focus
              obtain ⟨bk, -⟩ := HO.out.blk
              have hbf := lt_of_block bk
              have cb0 := cell_of_heap bk (i := 0)
              have cb1 := cell_of_heap bk (i := 1)
              have cb2 := cell_of_heap bk (i := 2)
              have cb3 := cell_of_heap bk (i := 3)
              have cb4 := cell_of_heap bk (i := 4)
              simp only [List.getElem?_toArray, List.getElem?_cons_succ, List.getElem?_cons_zero] at cb0 cb1 cb2 cb3 cb4
              clear bk
              go_wp2_with fail
              go_roundg (N - (0 + 1))
              case measure => omega
              case rel => exact ⟨0 + 1, _, rfl, by omega, by go_num, rfl, Lib.hid (by rw [HA2.out] <;> simp [bs_data]), HO⟩
          · have hk1 : 0 < k := by omega
            clear hk0
            -- the kid's text is ([40] ++ (t ++ [41]))
            have HA2 : Hid (accF 5 L (k + 1) = a ++ ([32, 97, 110, 100, 32] ++ (([40] ++ (t ++ [41]))))) := by
              show _ = _
              rw [acc_and HLk.out, HPT.out, ← HA.out]
              try rw [if_pos (show 0 < k by omega)]
              try rw [if_neg (show ¬ 0 < k by omega)]
              try rfl
            focus
              obtain ⟨bk, -⟩ := HO.out.blk
              have hbf := lt_of_block bk
              have cb0 := cell_of_heap bk (i := 0)
              have cb1 := cell_of_heap bk (i := 1)
              have cb2 := cell_of_heap bk (i := 2)
              have cb3 := cell_of_heap bk (i := 3)
              have cb4 := cell_of_heap bk (i := 4)
              simp only [List.getElem?_toArray, List.getElem?_cons_succ, List.getElem?_cons_zero] at cb0 cb1 cb2 cb3 cb4
              clear bk
              go_wp2_with fail
              go_roundg (N - (k + 1))
              case measure => omega
              case rel => exact ⟨k + 1, _, rfl, by omega, by go_num, rfl, Lib.hid (by rw [HA2.out] <;> simp [bs_data]), HO⟩
        have h6' : (oq == 6) = false := by simpa using h6
        by_cases h5 : oq = 5
        · subst h5
          have HPT : Hid (parT (parB 5 5) t = ([40] ++ (t ++ [41]))) := Lib.hid rfl
          by_cases hk0 : k = 0
          · subst hk0
            simp only [Nat.zero_mul, Nat.add_zero] at c0'
            -- the kid's text is ([40] ++ (t ++ [41]))
            have HA2 : Hid (accF 5 L (0 + 1) = a ++ (([40] ++ (t ++ [41])))) := by
              show _ = _
              rw [acc_and HLk.out, HPT.out, ← HA.out]
              try rw [if_pos (show 0 < 0 by omega)]
              try rw [if_neg (show ¬ 0 < 0 by omega)]
              try rfl
            focus
              obtain ⟨bk, -⟩ := HO.out.blk
              have hbf := lt_of_block bk
              have cb0 := cell_of_heap bk (i := 0)
              have cb1 := cell_of_heap bk (i := 1)
              have cb2 := cell_of_heap bk (i := 2)
              have cb3 := cell_of_heap bk (i := 3)
              have cb4 := cell_of_heap bk (i := 4)
              simp only [List.getElem?_toArray, List.getElem?_cons_succ, List.getElem?_cons_zero] at cb0 cb1 cb2 cb3 cb4
              clear bk
              go_wp2_with fail
              go_roundg (N - (0 + 1))
              case measure => omega
              case rel => exact ⟨0 + 1, _, rfl, by omega, by go_num, rfl, Lib.hid (by rw [HA2.out] <;> simp [bs_data]), HO⟩
          · have hk1 : 0 < k := by omega
            clear hk0
            -- the kid's text is ([40] ++ (t ++ [41]))
            have HA2 : Hid (accF 5 L (k + 1) = a ++ ([32, 97, 110, 100, 32] ++ (([40] ++ (t ++ [41]))))) := by
              show _ = _
              rw [acc_and HLk.out, HPT.out, ← HA.out]
              try rw [if_pos (show 0 < k by omega)]
              try rw [if_neg (show ¬ 0 < k by omega)]
              try rfl
            focus
              obtain ⟨bk, -⟩ := HO.out.blk
              have hbf := lt_of_block bk
              have cb0 := cell_of_heap bk (i := 0)
              have cb1 := cell_of_heap bk (i := 1)
              have cb2 := cell_of_heap bk (i := 2)
              have cb3 := cell_of_heap bk (i := 3)
              have cb4 := cell_of_heap bk (i := 4)
              simp only [List.getElem?_toArray, List.getElem?_cons_succ, List.getElem?_cons_zero] at cb0 cb1 cb2 cb3 cb4
              clear bk
              go_wp2_with fail
              go_roundg (N - (k + 1))
              case measure => omega
              case rel => exact ⟨k + 1, _, rfl, by omega, by go_num, rfl, Lib.hid (by rw [HA2.out] <;> simp [bs_data]), HO⟩
        · have h5' : (oq == 5) = false := by simpa using h5
          have HPT : Hid (parT (parB 5 oq) t = t) := by
            show _ = _
            rw [parB]
            simp [h5, h6, parT]
          clear h5 h6
          by_cases hk0 : k = 0
          · subst hk0
            simp only [Nat.zero_mul, Nat.add_zero] at c0'
            -- the kid's text is t
            have HA2 : Hid (accF 5 L (0 + 1) = a ++ (t)) := by
              show _ = _
              rw [acc_and HLk.out, HPT.out, ← HA.out]
              try rw [if_pos (show 0 < 0 by omega)]
              try rw [if_neg (show ¬ 0 < 0 by omega)]
              try rfl
            focus
              obtain ⟨bk, -⟩ := HO.out.blk
              have hbf := lt_of_block bk
              have cb0 := cell_of_heap bk (i := 0)
              have cb1 := cell_of_heap bk (i := 1)
              have cb2 := cell_of_heap bk (i := 2)
              have cb3 := cell_of_heap bk (i := 3)
              have cb4 := cell_of_heap bk (i := 4)
              simp only [List.getElem?_toArray, List.getElem?_cons_succ, List.getElem?_cons_zero] at cb0 cb1 cb2 cb3 cb4
              clear bk
              go_wp2_with fail
              go_roundg (N - (0 + 1))
              case measure => omega
              case rel => exact ⟨0 + 1, _, rfl, by omega, by go_num, rfl, Lib.hid (by rw [HA2.out] <;> simp [bs_data]), HO⟩
          · have hk1 : 0 < k := by omega
            clear hk0
            -- the kid's text is t
            have HA2 : Hid (accF 5 L (k + 1) = a ++ ([32, 97, 110, 100, 32] ++ (t))) := by
              show _ = _
              rw [acc_and HLk.out, HPT.out, ← HA.out]
              try rw [if_pos (show 0 < k by omega)]
              try rw [if_neg (show ¬ 0 < k by omega)]
              try rfl
            focus
              obtain ⟨bk, -⟩ := HO.out.blk
              have hbf := lt_of_block bk
              have cb0 := cell_of_heap bk (i := 0)
              have cb1 := cell_of_heap bk (i := 1)
              have cb2 := cell_of_heap bk (i := 2)
              have cb3 := cell_of_heap bk (i := 3)
              have cb4 := cell_of_heap bk (i := 4)
              simp only [List.getElem?_toArray, List.getElem?_cons_succ, List.getElem?_cons_zero] at cb0 cb1 cb2 cb3 cb4
              clear bk
              go_wp2_with fail
              go_roundg (N - (k + 1))
              case measure => omega
              case rel => exact ⟨k + 1, _, rfl, by omega, by go_num, rfl, Lib.hid (by rw [HA2.out] <;> simp [bs_data]), HO⟩
      · obtain rfl : k = N := by omega
        have HE : Hid (textF Lib.itoa f = a) := by show _ = _; rw [← HFin.out, HA.out]
        clear hJ1 hK1 hlt HA
        obtain ⟨bk, -⟩ := HO.out.blk
        have hbf := lt_of_block bk
        have cb0 := cell_of_heap bk (i := 0)
        have cb1 := cell_of_heap bk (i := 1)
        have cb2 := cell_of_heap bk (i := 2)
        have cb3 := cell_of_heap bk (i := 3)
        have cb4 := cell_of_heap bk (i := 4)
        simp only [List.getElem?_toArray, List.getElem?_cons_succ, List.getElem?_cons_zero] at cb0 cb1 cb2 cb3 cb4
        clear bk
        go_wp2_with fail
        go_ret
        exact ⟨by rw [HE.out]; rfl, HO.out.base⟩
  · have HFin : Hid (accF 6 L N = textF Lib.itoa f) := by
      show _ = _
      rw [HT.out, ← HLl.out]
      simp [accF]
    clear h1 h2 h3 h1' h2' h3' H456
    -- o is 6
    have HAl : Hid (∀ k, k ≤ N → (accF 6 L k).length ≤ 60000000) := Lib.hid fun k hk => by
      have h1 := HFL.out
      rw [← HFin.out] at h1
      exact Nat.le_trans (acc_le6 HLl.out) h1
    have H0 : Hid (([] : Bytes) = accF 6 L 0) := Lib.hid (by simp [accF, joinB])
    go_loopg [3, 4] N (fun gk s' i wr => ∃ (k : Nat) (a : Bytes), gk = N - k ∧ k ≤ N ∧ i = .int .i64 (k : Int) ∧ s' = .string (bs a) ∧ Hid (a = accF 6 L k) ∧ Hid (Owns w wr [blk bf (.cells #[.int .i64 6, .string (bs s), .int .i64 mm, .int .i64 x, .slice y N m] 24 (0, 0))]))
    case atStart => exact ⟨0, [], rfl, Nat.zero_le _, rfl, rfl, H0, HO⟩
    case round =>
      rename_i J1 K1 hJ1 hK1
      clear HO H0
      obtain ⟨k, a, rfl, hk, rfl, rfl, HA, HO⟩ := hrel
      have hal : a.length ≤ 60000000 := by rw [HA.out]; exact HAl.out k hk
      by_cases hlt : k < N
      · obtain ⟨q, hq⟩ : ∃ q, f.kids[k]? = some q := ⟨_, List.getElem?_eq_getElem (by rw [← HN.out]; exact hlt)⟩
        obtain ⟨g, off, kv, rfl, hg, hkv, c0, c1, c2, c3, c4⟩ := HF.out.old HO.out.base hq
        obtain ⟨y2, m2, rfl⟩ := hkv.form
        have HQ := Lib.hid hq
        have HK := Lib.hid hkv
        clear hq hkv
        obtain ⟨N2, hN2⟩ : ∃ N2, N2 = q.kids.length := ⟨_, rfl⟩
        rw [← hN2] at c4 HK
        clear hN2
        have HLt := Lib.hid hlt
        focus
          obtain ⟨bk, -⟩ := HO.out.blk
          have hbf := lt_of_block bk
          have cb0 := cell_of_heap bk (i := 0)
          have cb1 := cell_of_heap bk (i := 1)
          have cb2 := cell_of_heap bk (i := 2)
          have cb3 := cell_of_heap bk (i := 3)
          have cb4 := cell_of_heap bk (i := 4)
          simp only [List.getElem?_toArray, List.getElem?_cons_succ, List.getElem?_cons_zero] at cb0 cb1 cb2 cb3 cb4
          clear bk
          go_wp2_with fail
          clear cb0 cb1 cb2 cb3 cb4 hbf
        refine (HKc.out q _ wr (List.mem_of_getElem? HQ.out) (HK.out.later HO.out.base)).mono ?_
        rintro e W5 ⟨rfl, hb⟩
        have c0' := (hb.cell (p := ⟨g, off + k * 5, none⟩) hg).trans c0
        have hg' := Nat.lt_of_lt_of_le hg hb.size
        replace HO := Lib.hid (HO.out.below hb)
        clear c0 c1 c2 c3 c4 hg hb
        have htl := HKL.out q (List.mem_of_getElem? HQ.out)
        have hlk : L[k]? = some (parT (parB 6 q.op) (textF Lib.itoa q)) := by rw [HL.out, textKids_eq, List.getElem?_map, HQ.out]; rfl
        have HLk := Lib.hid hlk
        clear hlk
        obtain ⟨t, ht⟩ : ∃ t, t = textF Lib.itoa q := ⟨_, rfl⟩
        rw [← ht] at htl HLk ⊢
        clear ht
        obtain ⟨oq, hoq⟩ : ∃ oq, oq = q.op := ⟨_, rfl⟩
        rw [← hoq] at c0' HLk
        clear hoq
        by_cases h6 : oq = 6
        · subst h6
          have HPT : Hid (parT (parB 6 6) t = [40] ++ (t ++ [41])) := Lib.hid rfl
          by_cases hk0 : k = 0
          · subst hk0
            simp only [Nat.zero_mul, Nat.add_zero] at c0'
            -- the kid's text is ([40] ++ (t ++ [41]))
            have HA2 : Hid (accF 6 L (0 + 1) = a ++ (([40] ++ (t ++ [41])))) := by
              show _ = _
              rw [acc_or HLk.out, HPT.out, ← HA.out]
              try rw [if_pos (show 0 < 0 by omega)]
              try rw [if_neg (show ¬ 0 < 0 by omega)]
              try rfl
            focus
              obtain ⟨bk, -⟩ := HO.out.blk
              have hbf := lt_of_block bk
              have cb0 := cell_of_heap bk (i := 0)
              have cb1 := cell_of_heap bk (i := 1)
              have cb2 := cell_of_heap bk (i := 2)
              have cb3 := cell_of_heap bk (i := 3)
              have cb4 := cell_of_heap bk (i := 4)
              simp only [List.getElem?_toArray, List.getElem?_cons_succ, List.getElem?_cons_zero] at cb0 cb1 cb2 cb3 cb4
              clear bk
              go_wp2_with fail
              go_roundg (N - (0 + 1))
              case measure => omega
              case rel => exact ⟨0 + 1, _, rfl, by omega, by go_num, rfl, Lib.hid (by rw [HA2.out] <;> simp [bs_data]), HO⟩
          · have hk1 : 0 < k := by omega
            clear hk0
            -- the kid's text is ([40] ++ (t ++ [41]))
            have HA2 : Hid (accF 6 L (k + 1) = a ++ ([32, 111, 114, 32] ++ (([40] ++ (t ++ [41]))))) := by
              show _ = _
              rw [acc_or HLk.out, HPT.out, ← HA.out]
              try rw [if_pos (show 0 < k by omega)]
              try rw [if_neg (show ¬ 0 < k by omega)]
              try rfl
            focus
              obtain ⟨bk, -⟩ := HO.out.blk
              have hbf := lt_of_block bk
              have cb0 := cell_of_heap bk (i := 0)
              have cb1 := cell_of_heap bk (i := 1)
              have cb2 := cell_of_heap bk (i := 2)
              have cb3 := cell_of_heap bk (i := 3)
              have cb4 := cell_of_heap bk (i := 4)
              simp only [List.getElem?_toArray, List.getElem?_cons_succ, List.getElem?_cons_zero] at cb0 cb1 cb2 cb3 cb4
              clear bk
              go_wp2_with fail
              go_roundg (N - (k + 1))
              case measure => omega
              case rel => exact ⟨k + 1, _, rfl, by omega, by go_num, rfl, Lib.hid (by rw [HA2.out] <;> simp [bs_data]), HO⟩
        have h6' : (oq == 6) = false := by simpa using h6
        by_cases h5 : oq = 5
        · subst h5
          have HPT : Hid (parT (parB 6 5) t = t) := Lib.hid rfl
          by_cases hk0 : k = 0
          · subst hk0
            simp only [Nat.zero_mul, Nat.add_zero] at c0'
            -- the kid's text is t
            have HA2 : Hid (accF 6 L (0 + 1) = a ++ (t)) := by
              show _ = _
              rw [acc_or HLk.out, HPT.out, ← HA.out]
              try rw [if_pos (show 0 < 0 by omega)]
              try rw [if_neg (show ¬ 0 < 0 by omega)]
              try rfl
            focus
              obtain ⟨bk, -⟩ := HO.out.blk
              have hbf := lt_of_block bk
              have cb0 := cell_of_heap bk (i := 0)
              have cb1 := cell_of_heap bk (i := 1)
              have cb2 := cell_of_heap bk (i := 2)
              have cb3 := cell_of_heap bk (i := 3)
              have cb4 := cell_of_heap bk (i := 4)
              simp only [List.getElem?_toArray, List.getElem?_cons_succ, List.getElem?_cons_zero] at cb0 cb1 cb2 cb3 cb4
              clear bk
              go_wp2_with fail
              go_roundg (N - (0 + 1))
              case measure => omega
              case rel => exact ⟨0 + 1, _, rfl, by omega, by go_num, rfl, Lib.hid (by rw [HA2.out] <;> simp [bs_data]), HO⟩
          · have hk1 : 0 < k := by omega
            clear hk0
            -- the kid's text is t
            have HA2 : Hid (accF 6 L (k + 1) = a ++ ([32, 111, 114, 32] ++ (t))) := by
              show _ = _
              rw [acc_or HLk.out, HPT.out, ← HA.out]
              try rw [if_pos (show 0 < k by omega)]
              try rw [if_neg (show ¬ 0 < k by omega)]
              try rfl
            focus
              obtain ⟨bk, -⟩ := HO.out.blk
              have hbf := lt_of_block bk
              have cb0 := cell_of_heap bk (i := 0)
              have cb1 := cell_of_heap bk (i := 1)
              have cb2 := cell_of_heap bk (i := 2)
              have cb3 := cell_of_heap bk (i := 3)
              have cb4 := cell_of_heap bk (i := 4)
              simp only [List.getElem?_toArray, List.getElem?_cons_succ, List.getElem?_cons_zero] at cb0 cb1 cb2 cb3 cb4
              clear bk
              go_wp2_with fail
              go_roundg (N - (k + 1))
              case measure => omega
              case rel => exact ⟨k + 1, _, rfl, by omega, by go_num, rfl, Lib.hid (by rw [HA2.out] <;> simp [bs_data]), HO⟩
        · have h5' : (oq == 5) = false := by simpa using h5
          have HPT : Hid (parT (parB 6 oq) t = t) := by
            show _ = _
            rw [parB]
            simp [h5, h6, parT]
          clear h5 h6
          by_cases hk0 : k = 0
          · subst hk0
            simp only [Nat.zero_mul, Nat.add_zero] at c0'
            -- the kid's text is t
            have HA2 : Hid (accF 6 L (0 + 1) = a ++ (t)) := by
              show _ = _
              rw [acc_or HLk.out, HPT.out, ← HA.out]
              try rw [if_pos (show 0 < 0 by omega)]
              try rw [if_neg (show ¬ 0 < 0 by omega)]
              try rfl
            focus
              obtain ⟨bk, -⟩ := HO.out.blk
              have hbf := lt_of_block bk
              have cb0 := cell_of_heap bk (i := 0)
              have cb1 := cell_of_heap bk (i := 1)
              have cb2 := cell_of_heap bk (i := 2)
              have cb3 := cell_of_heap bk (i := 3)
              have cb4 := cell_of_heap bk (i := 4)
              simp only [List.getElem?_toArray, List.getElem?_cons_succ, List.getElem?_cons_zero] at cb0 cb1 cb2 cb3 cb4
              clear bk
              go_wp2_with fail
              go_roundg (N - (0 + 1))
              case measure => omega
              case rel => exact ⟨0 + 1, _, rfl, by omega, by go_num, rfl, Lib.hid (by rw [HA2.out] <;> simp [bs_data]), HO⟩
          · have hk1 : 0 < k := by omega
            clear hk0
            -- the kid's text is t
            have HA2 : Hid (accF 6 L (k + 1) = a ++ ([32, 111, 114, 32] ++ (t))) := by
              show _ = _
              rw [acc_or HLk.out, HPT.out, ← HA.out]
              try rw [if_pos (show 0 < k by omega)]
              try rw [if_neg (show ¬ 0 < k by omega)]
              try rfl
            focus
              obtain ⟨bk, -⟩ := HO.out.blk
              have hbf := lt_of_block bk
              have cb0 := cell_of_heap bk (i := 0)
              have cb1 := cell_of_heap bk (i := 1)
              have cb2 := cell_of_heap bk (i := 2)
              have cb3 := cell_of_heap bk (i := 3)
              have cb4 := cell_of_heap bk (i := 4)
              simp only [List.getElem?_toArray, List.getElem?_cons_succ, List.getElem?_cons_zero] at cb0 cb1 cb2 cb3 cb4
              clear bk
              go_wp2_with fail
              go_roundg (N - (k + 1))
              case measure => omega
              case rel => exact ⟨k + 1, _, rfl, by omega, by go_num, rfl, Lib.hid (by rw [HA2.out] <;> simp [bs_data]), HO⟩
      · obtain rfl : k = N := by omega
        have HE : Hid (textF Lib.itoa f = a) := by show _ = _; rw [← HFin.out, HA.out]
        clear hJ1 hK1 hlt HA
        obtain ⟨bk, -⟩ := HO.out.blk
        have hbf := lt_of_block bk
        have cb0 := cell_of_heap bk (i := 0)
        have cb1 := cell_of_heap bk (i := 1)
        have cb2 := cell_of_heap bk (i := 2)
        have cb3 := cell_of_heap bk (i := 3)
        have cb4 := cell_of_heap bk (i := 4)
        simp only [List.getElem?_toArray, List.getElem?_cons_succ, List.getElem?_cons_zero] at cb0 cb1 cb2 cb3 cb4
        clear bk
        go_wp2_with fail
        go_ret
        exact ⟨by rw [HE.out]; rfl, HO.out.base⟩
set_option maxHeartbeats 2000000 in
theorem rText_c (f : Fm) (w : World) (kv : Value) (hf : IsFm p w f kv) {lim : Nat} (hlim : lim ≤ 140737488355328) (hs : short lim f = true) (hz : size f ≤ 900000) :
    Calls Tryz.prog 25 #[fval f kv] w (fun e w' => e = .returned (.tuple #[.string (bs (if textE f = 0 then textF Lib.itoa f else [])), .int .i64 (textE f : Nat)]) ∧ Below w.heap.size w w') := by
  have HS := Lib.hid hs
  have HLim := Lib.hid hlim
  have HZ := Lib.hid hz
  clear hs hlim hz
  obtain ⟨y, m, rfl⟩ := hf.form
  obtain ⟨N, hN⟩ : ∃ N, N = f.kids.length := ⟨_, rfl⟩
  have HN := Lib.hid hN
  rw [← hN] at hf ⊢
  have HF := Lib.hid hf
  clear hN hf
  obtain ⟨W1, hW1⟩ : ∃ W1, W1 = w.alloc (fobj f (.slice y N m)) := ⟨_, rfl⟩
  obtain ⟨bf, hbf⟩ : ∃ bf, bf = w.heap.size := ⟨_, rfl⟩
  have HO : Hid (Owns w W1 [blk bf (fobj f (.slice y N m))]) := by
    rw [hW1, hbf]
    exact Lib.hid ((Owns.start w).box _)
  have HE : Hid (textE f = if largeB f = true ∨ firstF badE f ≠ 0 then 1 else 0) := rfl
  obtain ⟨R, hR⟩ : ∃ R, R = if textE f = 0 then textF Lib.itoa f else [] := ⟨_, rfl⟩
  obtain ⟨Z, hZ⟩ : ∃ Z, Z = textE f := ⟨_, rfl⟩
  rw [← hR, ← hZ]
  rw [← hZ] at HE hR
  replace hR := Lib.hid hR
  clear hZ
  go_enter Tryz.func25, Tryz.ntmps25
  go_wp2_with fail
  rw [← hW1]
  try rw [← hbf]
  clear hW1 hbf
  go_at_call 42
  refine (rLarge_c f W1 _ (HF.out.later HO.out.base) HZ.out).mono ?_
  rintro e W2 ⟨rfl, hb⟩
  replace HO := Lib.hid (HO.out.below hb)
  clear hb
  obtain ⟨L, hL⟩ : ∃ L, L = largeB f := ⟨_, rfl⟩
  rw [← hL] at HE ⊢
  clear hL
  cases L
  case true =>
    rw [if_pos (.inl rfl)] at HE
    go_wp2_with fail
    go_ret2
    exact ⟨by rw [hR.out, HE.out]; rfl, HO.out.base⟩
  focus
    obtain ⟨bk, -⟩ := HO.out.blk
    have hbf := lt_of_block bk
    have cb0 := cell_of_heap bk (i := 0)
    have cb1 := cell_of_heap bk (i := 1)
    have cb2 := cell_of_heap bk (i := 2)
    have cb3 := cell_of_heap bk (i := 3)
    have cb4 := cell_of_heap bk (i := 4)
    simp only [List.getElem?_toArray, List.getElem?_cons_succ, List.getElem?_cons_zero] at cb0 cb1 cb2 cb3 cb4
    clear bk
    go_wp2_with fail
    clear cb0 cb1 cb2 cb3 cb4 hbf
  go_at_call 53
  refine (writable_c (p := p) HLim.out f W2 _ (HF.out.later HO.out.base) (by have := HZ.out; rw [size_kids] at this; omega) HS.out).mono ?_
  rintro e W3 ⟨rfl, hb⟩
  replace HO := Lib.hid (HO.out.below hb)
  clear hb
  obtain ⟨q, hq⟩ : ∃ q, q = decide (firstF badE f = 0) := ⟨_, rfl⟩
  have HQ := Lib.hid hq
  rw [← hq]
  clear hq
  cases q
  · rw [if_pos (.inr (of_decide_eq_false HQ.out.symm))] at HE
    go_wp2_with fail
    go_ret2
    exact ⟨by rw [hR.out, HE.out]; rfl, HO.out.base⟩
  · have hw : firstF badE f = 0 := of_decide_eq_true HQ.out.symm
    rw [if_neg (by simp [hw])] at HE
    have HWr := Lib.hid hw
    clear hw
    focus
      obtain ⟨bk, -⟩ := HO.out.blk
      have hbf := lt_of_block bk
      have cb0 := cell_of_heap bk (i := 0)
      have cb1 := cell_of_heap bk (i := 1)
      have cb2 := cell_of_heap bk (i := 2)
      have cb3 := cell_of_heap bk (i := 3)
      have cb4 := cell_of_heap bk (i := 4)
      simp only [List.getElem?_toArray, List.getElem?_cons_succ, List.getElem?_cons_zero] at cb0 cb1 cb2 cb3 cb4
      clear bk
      go_wp2_with fail
      clear cb0 cb1 cb2 cb3 cb4 hbf
    go_at_call 54
    refine (written_c (p := p) f W3 _ (HF.out.later HO.out.base) HZ.out HWr.out).mono ?_
    rintro e W4 ⟨rfl, hb⟩
    replace HO := Lib.hid (HO.out.below hb)
    clear hb
    go_wp2_with fail
    go_ret2
    exact ⟨by rw [hR.out, HE.out]; rfl, HO.out.base⟩
end
end Go.Proofs.YtagoefnibgobcaaGreatDoor
