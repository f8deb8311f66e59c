/-
  'ClockTexts': the walk.
-/
import Derived.Test.YthnhbiogaikpoaaDoorClEnv
import Derived.Test.YthnhbiogaikpoaaDoorClTexts
namespace Go.Proofs.YthnhbiogaikpoaaDoor
open Go.RowKit Go.Cz Go.Cz.Ck
set_option linter.unusedSimpArgs false
set_option linter.unusedVariables false
attribute [local go_sem] bs_size bs_extract bs_append bs_toList
attribute [local irreducible] cList
theorem text_len (t : Int) : (textF t).1.length ≤ 200 := by
  unfold textF
  split
  · rename_i h
    obtain ⟨h1, h2⟩ := instB_true.1 h
    have l1 := len_dec (t.toNat / 1440) (by omega)
    have l2 := len_two (t.toNat % 1440 / 60) (by omega)
    have l3 := len_two (t.toNat % 60) (by omega)
    simp only [textL, List.length_append, List.length_cons, List.length_nil]
    omega
  · simp
set_option maxRecDepth 10000 in
set_option maxHeartbeats 4000000 in
theorem ClockTexts_walk0 (w : World) (hs : Std w) (t : Int) (wt : (Lit.int .i64 t).wf = true) (l : List UInt8) (hl : l.length ≤ 140737488355328) :
    Calls Tryd.prog 9 #[.int .i64 t, .string (bs l)] w fun e w' => e = .returned (.bool true) ∧ Below w.heap.size w w' := by
  have HS := Lib.hid hs
  have HT := Lib.hid (texts_law t)
  have HP := Lib.hid (parse_law l)
  have HL := Lib.hid (text_len t)
  have HH := Lib.hid (head_c w hs)
  obtain ⟨a1, a2⟩ : -9223372036854775808 ≤ t ∧ t ≤ 9223372036854775807 := by
    simp only [Lit.wf, Bool.and_eq_true, decide_eq_true_eq] at wt
    exact ⟨wt.1, wt.2⟩
  clear hs wt
  go_enter Tryd.func9, Tryd.ntmps9
  go_wp2_with fail
  go_at_call 11
  refine HH.out.mono ?_
  rintro e W1 ⟨rfl, hb1⟩
  have HE : Hid (Below w.heap.size w W1 ∧ Std W1) := ⟨hb1, HS.out.below hb1⟩
  clear hb1 HS HH
  by_cases h200 : 200 < l.length
  · go_wp2_with fail
    go_ret
    exact ⟨rfl, HE.out.1⟩
  go_wp2_with fail
  go_at_call 18
  refine (Text_c t W1 HE.out.2).mono ?_
  rintro e W2 ⟨rfl, hb⟩
  replace HE : Hid (Below w.heap.size w W2 ∧ Std W2) := ⟨HE.out.1.trans (hb.mono HE.out.1.size), HE.out.2.below hb⟩
  clear hb
  rcases HT.out with ⟨hi, h1, h2⟩ | ⟨hi, h1⟩
  · obtain ⟨i1, i2⟩ := instB_true.1 hi
    rcases hF : textF t with ⟨s, e⟩
    rw [hF] at HL h1 h2
    simp only at h1 h2
    subst h1
    have Hp := Lib.hid h2
    clear hi hF h2 HT
    dsimp only
    go_wp2_with fail
    go_at_call 20
    refine (Parse_c s W2 (by have h5 : s.length ≤ 200 := HL.out; omega) HE.out.2).mono ?_
    rintro e W3 ⟨rfl, hb⟩
    rw [Hp.out]
    replace HE : Hid (Below w.heap.size w W3 ∧ Std W3) := ⟨HE.out.1.trans (hb.mono HE.out.1.size), HE.out.2.below hb⟩
    clear hb Hp HL
    dsimp only
    go_wp2_with fail
    go_at_call 20
    refine (Parse_c l W3 hl HE.out.2).mono ?_
    rintro e W4 ⟨rfl, hb⟩
    replace HE : Hid (Below w.heap.size w W4 ∧ Std W4) := ⟨HE.out.1.trans (hb.mono HE.out.1.size), HE.out.2.below hb⟩
    clear hb
    rcases HP.out with h | ⟨u, h, h'⟩
    · rw [h]
      clear h HP
      dsimp only
      go_wp2_with fail
      go_ret
      exact ⟨rfl, HE.out.1⟩
    · rw [h]
      have HU := Lib.hid h'
      clear h h' HP
      dsimp only
      go_wp2_with fail
      go_at_call 18
      refine (Text_c u W4 HE.out.2).mono ?_
      rintro e W5 ⟨rfl, hb⟩
      rw [HU.out]
      replace HE : Hid (Below w.heap.size w W5 ∧ Std W5) := ⟨HE.out.1.trans (hb.mono HE.out.1.size), HE.out.2.below hb⟩
      clear hb HU
      dsimp only
      go_wp2_with fail
      go_ret
      exact ⟨rfl, HE.out.1⟩
  · have hn := instB_false.1 hi
    rw [h1]
    clear hi h1 HT HL
    dsimp only
    have Hp : Hid (parseF [] = (0, 5)) := by
      show parseF [] = (0, 5)
      exact parseF_no (.inl (by decide +kernel))
    rcases hn with hn | hn
    all_goals
      go_wp2_with fail
      go_at_call 20
      refine (Parse_c [] W2 (by simp) HE.out.2).mono ?_
      rintro e W3 ⟨rfl, hb⟩
      rw [Hp.out]
      replace HE : Hid (Below w.heap.size w W3 ∧ Std W3) := ⟨HE.out.1.trans (hb.mono HE.out.1.size), HE.out.2.below hb⟩
      clear hb Hp
      dsimp only
      go_wp2_with fail
      go_at_call 20
      refine (Parse_c l W3 hl HE.out.2).mono ?_
      rintro e W4 ⟨rfl, hb⟩
      replace HE : Hid (Below w.heap.size w W4 ∧ Std W4) := ⟨HE.out.1.trans (hb.mono HE.out.1.size), HE.out.2.below hb⟩
      clear hb
      rcases HP.out with h | ⟨u, h, h'⟩
      · rw [h]
        clear h HP
        dsimp only
        go_wp2_with fail
        go_ret
        exact ⟨rfl, HE.out.1⟩
      · rw [h]
        have HU := Lib.hid h'
        clear h h' HP
        dsimp only
        go_wp2_with fail
        go_at_call 18
        refine (Text_c u W4 HE.out.2).mono ?_
        rintro e W5 ⟨rfl, hb⟩
        rw [HU.out]
        replace HE : Hid (Below w.heap.size w W5 ∧ Std W5) := ⟨HE.out.1.trans (hb.mono HE.out.1.size), HE.out.2.below hb⟩
        clear hb HU
        dsimp only
        go_wp2_with fail
        go_ret
        exact ⟨rfl, HE.out.1⟩
theorem ClockTexts_walk (w : World) (hs : Std w) (t : Int) (wt : (Lit.int .i64 t).wf = true) (l : List UInt8) (hl : l.length ≤ 140737488355328) :
    Calls Tryd.prog 9 #[.int .i64 t, .string (bs l)] w fun e w' => e = .returned (.bool true) ∧ Below w.heap.size w w' := ClockTexts_walk0 w hs t wt l hl
end Go.Proofs.YthnhbiogaikpoaaDoor
