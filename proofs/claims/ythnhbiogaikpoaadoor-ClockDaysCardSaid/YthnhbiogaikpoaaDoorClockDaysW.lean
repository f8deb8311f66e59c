/-
  'ClockDays': the walk.
-/
import Derived.Test.YthnhbiogaikpoaaDoorClEnv
import Derived.Test.YthnhbiogaikpoaaDoorClLaws
namespace Go.Proofs.YthnhbiogaikpoaaDoor
open Go.RowKit Go.Cz Go.Cz.Ck
set_option linter.unusedSimpArgs false
set_option linter.unusedVariables false
attribute [local go_sem] bs_size bs_extract bs_append bs_toList
attribute [local irreducible] cList
/-- What the law asks of two days that follow each other. -/
theorem days_law {l : List Shift} (h : validB l = true) {day a ea b eb : Int} (h1 : instF l day 0 = (a, ea)) (h2 : instF l (day + 1) 0 = (b, eb)) :
    (ea = 10 ∧ eb = 10) ∨ (ea = 0 ∧ 0 ≤ a ∧ a ≤ 144001439 ∧ (eb = 10 ∨ eb = 0 ∧ a ≤ b) ∧ ∀ t, 0 ≤ t → t < a → localF l t = ((t + off l t) / 1440, (t + off l t) % 1440, 0) ∧ (t + off l t) / 1440 < day) := by
  have k1 := inst_law h (d := day) (m := 0) (by omega) (by omega)
  have k2 := inst_law h (d := day + 1) (m := 0) (by omega) (by omega)
  rw [h1] at k1
  rw [h2] at k2
  simp only at k1 k2
  rcases k1 with ⟨rfl, g1, g2, g3, g4⟩ | ⟨rfl, g1, g4⟩
  · refine .inr ⟨rfl, g1, g2, ?_, fun t t1 t2 => ⟨local_law h t1 (by omega), ?_⟩⟩
    · rcases k2 with ⟨rfl, i1, i2, i3, i4⟩ | ⟨rfl, -⟩
      · refine .inr ⟨rfl, ?_⟩
        rcases Int.lt_or_le b a with hb | hb
        · have := g4 b i1 hb
          omega
        · exact hb
      · exact .inl rfl
    · have := g4 t t1 t2
      omega
  · refine .inl ⟨rfl, ?_⟩
    rcases k2 with ⟨rfl, i1, i2, i3, i4⟩ | ⟨rfl, -⟩
    · have := g4 b i1 i2
      omega
    · rfl
set_option maxRecDepth 10000 in
set_option maxHeartbeats 4000000 in
theorem ClockDays_walk (w : World) (hs : Std w) (x : Option Addr) (n c : Nat) (l : List Shift) (hx : IsShifts w x n l) (r1 : Int) (w1 : (Lit.int .u32 r1).wf = true) (r2 : Int) (w2 : (Lit.int .u32 r2).wf = true) :
    Calls Tryd.prog 7 #[.agg #[.slice x n c], .int .u32 r1, .int .u32 r2] w fun e w' => e = .returned (.bool true) ∧ Below w.heap.size w w' := by
  have HH := Lib.hid (fun W (hb : Below w.heap.size w W) => head_c W (hs.below hb))
  obtain ⟨a1, a2⟩ := u32_in w1
  obtain ⟨b1, b2⟩ := u32_in w2
  obtain ⟨q, e1⟩ : ∃ q, q = r1 % 100001 := ⟨_, rfl⟩
  have e1' : r1 % 100001 = q := e1.symm
  have k1 : 0 ≤ q := by omega
  have k2 : q ≤ 100000 := by omega
  clear e1 w1 w2 hs
  obtain ⟨B, hB⟩ : ∃ B, B = w.heap.size := ⟨_, rfl⟩
  have HE : Hid (ZE w (w.alloc (.cells #[.slice x n c] 24)) B x n c l) := by
    subst hB
    have hb : Below w.heap.size w (w.alloc (.cells #[.slice x n c] 24)) := (Below.refl _ _).alloc (by omega) _
    exact ⟨hb, Bk.new _ _ _, hx.below hb⟩
  obtain ⟨fb, hfb⟩ : ∃ fb, fb = fewB n 40 := ⟨_, rfl⟩
  have Hfb := Lib.hid hfb.symm
  clear hx hfb
  go_enter Tryd.func7, Tryd.ntmps7
  go_wp2_with fail
  rw [← hB] at *
  clear hB
  obtain ⟨W1, hW1⟩ : ∃ W1, W1 = w.alloc (.cells #[.slice x n c] 24) := ⟨_, rfl⟩
  rw [← hW1] at HE ⊢
  clear hW1
  go_at_call 11
  refine (HH.out _ HE.out.below).mono ?_
  rintro e W2 ⟨rfl, hb⟩
  obtain ⟨HE, lz, cz⟩ := HE.out.next hb
  clear hb HH
  go_wp2_with fail
  go_at_call 12
  refine (Few_c x n c 40 W2).mono ?_
  rintro e W3 ⟨rfl, hb⟩
  rw [Hfb.out]
  clear lz cz
  obtain ⟨HE, lz, cz⟩ := HE.out.next hb
  clear hb
  cases fb
  · go_wp2_with fail
    go_ret
    exact ⟨rfl, HE.out.below⟩
  go_wp2_with fail
  go_at_call 22
  refine (Valid_c x n c l W3 HE.out.sh).mono ?_
  rintro e W4 ⟨rfl, hb⟩
  clear lz cz
  obtain ⟨HE, lz, cz⟩ := HE.out.next hb
  clear hb
  cases hv : validB l
  · clear hv
    go_wp2_with fail
    go_ret
    exact ⟨rfl, HE.out.below⟩
  obtain ⟨a, ea, h1⟩ : ∃ a ea, instF l q 0 = (a, ea) := ⟨_, _, rfl⟩
  obtain ⟨b, eb, h2⟩ : ∃ a ea, instF l (q + 1) 0 = (a, ea) := ⟨_, _, rfl⟩
  have HD1 := Lib.hid h1
  have HD2 := Lib.hid h2
  have HL := Lib.hid (days_law hv h1 h2)
  clear hv h1 h2
  go_wp2_with fail
  go_at_call 17
  refine (Begin_c x n c l q W4 HE.out.sh).mono ?_
  rintro e W5 ⟨rfl, hb⟩
  rw [HD1.out]
  clear lz cz
  obtain ⟨HE, lz, cz⟩ := HE.out.next hb
  clear hb
  go_wp2_with fail
  go_at_call 17
  refine (Begin_c x n c l (q + 1) W5 HE.out.sh).mono ?_
  rintro e W6 ⟨rfl, hb⟩
  rw [HD2.out]
  clear lz cz
  obtain ⟨HE, lz, cz⟩ := HE.out.next hb
  clear hb
  rcases HL.out with ⟨rfl, rfl⟩ | ⟨rfl, g1, g2, g3, g4⟩
  · clear HL
    go_wp2_with fail
    go_ret
    exact ⟨rfl, HE.out.below⟩
  clear HL
  have G4 := Lib.hid g4
  have G3 := Lib.hid g3
  clear g4 g3
  by_cases ha : a = 0
  · have hz : (a == 0) = true := by simp [ha]
    rcases G3.out with rfl | ⟨rfl, g3⟩
    · clear G3 HD2
      go_wp2_with fail
      go_ret
      exact ⟨rfl, HE.out.below⟩
    · clear G3 HD2
      go_wp2_with fail
      go_ret
      exact ⟨rfl, HE.out.below⟩
  have hz : (a == 0) = false := by simp [ha]
  have hpos : 0 < a := by omega
  have Ht : Hid (localF l (a - 1) = ((a - 1 + off l (a - 1)) / 1440, (a - 1 + off l (a - 1)) % 1440, 0)) := (G4.out _ (by omega) (by omega)).1
  have Hu : Hid ((a - 1 + off l (a - 1)) / 1440 < q) := (G4.out _ (by omega) (by omega)).2
  have hr1 : 0 ≤ r2 % a := Int.emod_nonneg _ (by omega)
  have hr2 : r2 % a < a := Int.emod_lt_of_pos _ hpos
  have Hv : Hid (localF l (r2 % a) = ((r2 % a + off l (r2 % a)) / 1440, (r2 % a + off l (r2 % a)) % 1440, 0)) := (G4.out _ hr1 hr2).1
  have Hw : Hid ((r2 % a + off l (r2 % a)) / 1440 < q) := (G4.out _ hr1 hr2).2
  have htm : r2.tmod a = r2 % a := Int.tmod_eq_emod_of_nonneg b1
  obtain ⟨u, hu⟩ : ∃ u, u = r2 % a := ⟨_, rfl⟩
  rw [← hu] at Hv Hw hr1 hr2 htm
  obtain ⟨d1, hd1⟩ : ∃ d, d = (a - 1 + off l (a - 1)) / 1440 := ⟨_, rfl⟩
  obtain ⟨m1, hm1⟩ : ∃ d, d = (a - 1 + off l (a - 1)) % 1440 := ⟨_, rfl⟩
  obtain ⟨d2, hd2⟩ : ∃ d, d = (u + off l u) / 1440 := ⟨_, rfl⟩
  obtain ⟨m2, hm2⟩ : ∃ d, d = (u + off l u) % 1440 := ⟨_, rfl⟩
  rw [← hd1, ← hm1] at Ht
  rw [← hd1] at Hu
  rw [← hd2, ← hm2] at Hv
  rw [← hd2] at Hw
  clear hd1 hm1 hd2 hm2 G4
  have hu2 : r2 % a = u := hu.symm
  clear hu
  rcases G3.out with rfl | ⟨rfl, g3⟩
  all_goals
    clear G3 HD2
    go_wp2_with fail
    go_at_call 13
    refine (Local_c x n c l (a - 1) W6 HE.out.sh).mono ?_
    rintro e W7 ⟨rfl, hb⟩
    rw [Ht.out]
    clear lz cz
    obtain ⟨HE, lz, cz⟩ := HE.out.next hb
    clear hb
    have c1 := Hu.out
    have c2 := Hw.out
    go_wp2_with fail
    refine wp_region_can [5] (List.range 13) (by kernel_rfl) (by kernel_rfl) ?_
    obtain ⟨HE, lz, cz⟩ := HE.out.next (W' := W7.drew) (Below.refl _ _).drew
    go_wp2_with (first | refine cl_nil ?_ | (go_at_call 13; refine (Local_c x n c l u _ HE.out.sh).mono ?_; rintro e W8 ⟨rfl, hb⟩; rw [Hv.out]; obtain ⟨HE, lz, cz⟩ := HE.out.next hb) | (refine And.intro (show Below _ _ _ from ?_) ?_; exact hb) | (refine cl_call (i := 5) rfl rfl rfl (fun K hK => ?_)) | (refine cl_do rfl rfl rfl rfl (fun _ _ => ?_)))
    go_ret
    exact ⟨rfl, HE.out.below⟩
end Go.Proofs.YthnhbiogaikpoaaDoor
