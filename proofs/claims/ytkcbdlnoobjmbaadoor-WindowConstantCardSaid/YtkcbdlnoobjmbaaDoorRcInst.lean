/-
  The reference clock's 'Instant': what it returns.
-/
import Derived.Test.YtkcbdlnoobjmbaaDoorRcValid
namespace Go.Cz.Ck
theorem rins_at {want : Int} {S : List (Shift × Int)} {k : Nat} {p : Shift × Int} (h : S[k]? = some p) :
    rins want (S.drop k) = if max p.1.1 (want - p.1.2) ≤ p.2 then (max p.1.1 (want - p.1.2), 0) else rins want (S.drop (k + 1)) := by
  obtain ⟨hj, he⟩ := List.getElem?_eq_some_iff.1 h
  rw [List.drop_eq_getElem_cons hj, he]
  rfl
def RI (l : List Shift) (want : Int) (k : Nat) : Prop := rins want (spans l) = rins want ((spans l).drop k)
theorem ri_ret {l : List Shift} {want : Int} {k : Nat} {s1 s2 E T : Int} (hi : RI l want k) (h : l[k]? = some (s1, s2)) (hE : endAt l k = E) (hT : T = max s1 (want - s2)) (hle : T ≤ E) : rins want (spans l) = (T, 0) := by
  rw [hi, rins_at (spans_get l k _ h)]
  subst hT
  rw [hE]
  exact if_pos hle
theorem ri_next {l : List Shift} {want : Int} {k : Nat} {s1 s2 E T : Int} (hi : RI l want k) (h : l[k]? = some (s1, s2)) (hE : endAt l k = E) (hT : T = max s1 (want - s2)) (hle : ¬ T ≤ E) : RI l want (k + 1) := by
  unfold RI
  rw [hi, rins_at (spans_get l k _ h)]
  subst hT
  rw [hE]
  exact if_neg hle
theorem ri_end {l : List Shift} {want : Int} {k : Nat} (hi : RI l want k) (h : l.length = k) : rins want (spans l) = (0, 10) := by
  rw [hi, List.drop_of_length_le (by rw [length_spans]; omega)]
  rfl
theorem rinst_bad {l : List Shift} {day minute : Int} (h : validB l = false ∨ minute < 0 ∨ 1439 < minute) : instF l day minute = (0, 1) := by
  rw [← rinst_eq]
  unfold rinstF
  rw [if_neg]
  simp only [Bool.and_eq_true, decide_eq_true_eq]
  rintro ⟨h1, h2, h3⟩
  rcases h with h | h | h
  · rw [h1] at h; cases h
  · omega
  · omega
theorem rinst_in {l : List Shift} {day minute : Int} (h : validB l = true) (h1 : 0 ≤ minute) (h2 : minute ≤ 1439) : instF l day minute = if 100001 < day then (0, 10) else if day < -1 then (0, 0) else rins (day * 1440 + minute) (spans l) := by
  rw [← rinst_eq]
  unfold rinstF
  rw [if_pos]
  simp only [Bool.and_eq_true, decide_eq_true_eq]
  exact ⟨h, h1, by omega⟩
end Go.Cz.Ck
namespace Go.Proofs.YtkcbdlnoobjmbaaDoor
open Go.RowKit Go.Cz Go.Cz.Ck
set_option linter.unusedSimpArgs false
set_option linter.unusedVariables false
attribute [local go_sem] bs_size bs_extract bs_append bs_toList
attribute [local irreducible] cList
set_option maxRecDepth 5000 in
set_option maxHeartbeats 4000000 in
theorem rInstant_c (x : Option Addr) (n c : Nat) (l : List Shift) (day minute : Int) (w : World) (hx : IsShifts w x n l) :
    Calls Tryd.prog 41 #[.agg #[.slice x n c], .int .i64 day, .int .i64 minute] w fun e w' => e = .returned (.tuple #[.int .i64 (instF l day minute).1, .int .i64 (instF l day minute).2]) ∧ Below w.heap.size w w' := by
  have hln := hx.1
  have hn := hx.2.1
  obtain ⟨B, hB⟩ : ∃ B, B = w.heap.size := ⟨_, rfl⟩
  have HE : Hid (ZE w (w.alloc (.cells #[.slice x n c] 29)) B x n c l) := by
    subst hB
    have hb : Below w.heap.size w (w.alloc (.cells #[.slice x n c] 29)) := (Below.refl _ _).alloc (by omega) _
    exact ⟨hb, Bk.new _ _ _, hx.below hb⟩
  have Hln := Lib.hid hln
  clear hx hln
  go_enter Tryd.func41, Tryd.ntmps41
  go_wp2_with fail
  rw [← hB] at *
  clear hB
  obtain ⟨W1, hW1⟩ : ∃ W1, W1 = w.alloc (.cells #[.slice x n c] 29) := ⟨_, rfl⟩
  rw [← hW1] at HE ⊢
  clear hW1
  go_at_call 25
  refine (rValid_c x n c l W1 HE.out.sh).mono ?_
  rintro e W2 ⟨rfl, hb⟩
  obtain ⟨HE, lz, cz⟩ := HE.out.next hb
  clear hb
  cases hv : validB l
  · have HL := Lib.hid (rinst_bad (day := day) (minute := minute) (.inl hv))
    clear hv
    go_wp2_with fail
    go_ret2
    exact ⟨by rw [HL.out]; rfl, HE.out.below⟩
  by_cases m1 : minute < 0
  · have HL := Lib.hid (rinst_bad (l := l) (day := day) (minute := minute) (.inr (.inl m1)))
    clear hv
    go_wp2_with fail
    go_ret2
    exact ⟨by rw [HL.out]; rfl, HE.out.below⟩
  by_cases m2 : 1439 < minute
  · have HL := Lib.hid (rinst_bad (l := l) (day := day) (minute := minute) (.inr (.inr m2)))
    clear hv
    go_wp2_with fail
    go_ret2
    exact ⟨by rw [HL.out]; rfl, HE.out.below⟩
  have hin := rinst_in (day := day) hv (Int.not_lt.1 m1) (Int.not_lt.1 m2)
  have m3 : 0 ≤ minute := by omega
  have m4 : minute ≤ 1439 := by omega
  by_cases d1 : 100001 < day
  · rw [if_pos d1] at hin
    have HL := Lib.hid hin
    clear hv hin
    go_wp2_with fail
    go_ret2
    exact ⟨by rw [HL.out]; rfl, HE.out.below⟩
  rw [if_neg d1] at hin
  by_cases d2 : day < -1
  · rw [if_pos d2] at hin
    have HL := Lib.hid hin
    clear hv hin
    go_wp2_with fail
    go_ret2
    exact ⟨by rw [HL.out]; rfl, HE.out.below⟩
  rw [if_neg d2] at hin
  have d3 : -1 ≤ day := by omega
  have d4 : day ≤ 100001 := by omega
  have Hv := Lib.hid hv
  obtain ⟨want, hwd⟩ : ∃ v, v = day * 1440 + minute := ⟨_, rfl⟩
  rw [← hwd] at hin
  have HI2 := Lib.hid hin
  clear hin hv
  have g1 : -1440 ≤ want := by omega
  have g2 : want ≤ 144002879 := by omega
  have Hwd := Lib.hid hwd
  clear hwd
  go_wp2_with fail
  rw [← Hwd.out]
  clear Hwd lz cz
  go_loopg [9] n (fun gk i wr => ∃ k : Nat, gk = n - k ∧ k ≤ n ∧ i = .int .i64 (k : Int) ∧ Hid (RI l want k) ∧ Hid (ZE w wr B x n c l))
  case atStart => exact ⟨0, rfl, Nat.zero_le _, rfl, rfl, HE⟩
  case round =>
    rename_i J1 K1 hJ1 hK1
    clear HE
    obtain ⟨k, rfl, hk, rfl, hv, hw⟩ := hrel
    obtain ⟨-, lz, cz⟩ := hw.out.next (Below.refl _ _)
    by_cases hlt : k < n
    · by_cases hlt1 : k + 1 < n
      · obtain ⟨g, off, s, s', rfl, i1, i2, hg, c0, c1, c2, c3⟩ := hw.out.sh.two hlt1
        have HE2 : Hid (endAt l k = s'.1 - 1) := by show _ = _; unfold endAt; rw [i2]
        have v1 := valid_all Hv.out s (List.mem_of_getElem? i1)
        have v2 := valid_all Hv.out s' (List.mem_of_getElem? i2)
        obtain ⟨s1, s2⟩ := s
        obtain ⟨s1', s2'⟩ := s'
        dsimp only at c0 c1 c2 c3 v1 v2 HE2
        obtain ⟨v11, v12, v13, v14⟩ := v1
        obtain ⟨v21, v22, v23, v24⟩ := v2
        have Hs := Lib.hid i1
        clear i1 i2 c3
        by_cases hA : want - s2 < s1
        · by_cases hle : s1 ≤ s1' - 1
          · have hI1 : s1 ≤ s1' - 1 := hle
            have He : Hid (instF l day minute = (s1, 0)) := HI2.out.trans (ri_ret hv.out Hs.out HE2.out (by omega) hle)
            clear hv HE2 Hs HI2
            go_wp2_with fail
            go_ret2
            exact ⟨by rw [He.out]; rfl, hw.out.below⟩
          · have He : Hid (RI l want (k + 1)) := ri_next hv.out Hs.out HE2.out (T := s1) (by omega) hle
            clear hv HE2 Hs
            go_wp2_with fail
            go_roundg (n - (k + 1))
            case measure => omega
            case rel => exact ⟨k + 1, rfl, by omega, by go_num, He, hw⟩
        · by_cases hle : want - s2 ≤ s1' - 1
          · have hI1 : want - s2 ≤ s1' - 1 := hle
            have He : Hid (instF l day minute = (want - s2, 0)) := HI2.out.trans (ri_ret hv.out Hs.out HE2.out (by omega) hle)
            clear hv HE2 Hs HI2
            go_wp2_with fail
            go_ret2
            exact ⟨by rw [He.out]; rfl, hw.out.below⟩
          · have He : Hid (RI l want (k + 1)) := ri_next hv.out Hs.out HE2.out (T := want - s2) (by omega) hle
            clear hv HE2 Hs
            go_wp2_with fail
            go_roundg (n - (k + 1))
            case measure => omega
            case rel => exact ⟨k + 1, rfl, by omega, by go_num, He, hw⟩
      · obtain ⟨g, off, s, rfl, i1, hg, c0, c1⟩ := hw.out.sh.at hlt
        have HE2 : Hid (endAt l k = 144001439) := by
          show _ = _
          unfold endAt
          rw [List.getElem?_eq_none (by have := Hln.out; omega)]
        have v1 := valid_all Hv.out s (List.mem_of_getElem? i1)
        obtain ⟨s1, s2⟩ := s
        dsimp only at c0 c1 v1
        obtain ⟨v11, v12, v13, v14⟩ := v1
        have Hs := Lib.hid i1
        clear i1
        by_cases hA : want - s2 < s1
        · by_cases hle : s1 ≤ 144001439
          · have hI1 : s1 ≤ 144001439 := hle
            have He : Hid (instF l day minute = (s1, 0)) := HI2.out.trans (ri_ret hv.out Hs.out HE2.out (by omega) hle)
            clear hv HE2 Hs HI2
            go_wp2_with fail
            go_ret2
            exact ⟨by rw [He.out]; rfl, hw.out.below⟩
          · exact absurd v12 hle
        · by_cases hle : want - s2 ≤ 144001439
          · have hI1 : want - s2 ≤ 144001439 := hle
            have He : Hid (instF l day minute = (want - s2, 0)) := HI2.out.trans (ri_ret hv.out Hs.out HE2.out (by omega) hle)
            clear hv HE2 Hs HI2
            go_wp2_with fail
            go_ret2
            exact ⟨by rw [He.out]; rfl, hw.out.below⟩
          · have He : Hid (RI l want (k + 1)) := ri_next hv.out Hs.out HE2.out (T := want - s2) (by omega) hle
            clear hv HE2 Hs
            go_wp2_with fail
            go_roundg (n - (k + 1))
            case measure => omega
            case rel => exact ⟨k + 1, rfl, by omega, by go_num, He, hw⟩
    · obtain rfl : k = n := by omega
      clear hJ1 hK1
      have He : Hid (instF l day minute = (0, 10)) := HI2.out.trans (ri_end hv.out Hln.out)
      clear hv HI2
      go_wp2_with fail
      go_ret2
      exact ⟨by rw [He.out]; rfl, hw.out.below⟩
end Go.Proofs.YtkcbdlnoobjmbaaDoor
