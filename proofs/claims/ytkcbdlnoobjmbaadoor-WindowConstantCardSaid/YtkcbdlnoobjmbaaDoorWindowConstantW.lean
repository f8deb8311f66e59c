/-
  'WindowConstant': the plain law and the walk.
-/
import Derived.Test.YtkcbdlnoobjmbaaDoorWindowChangesAsReferenceW
namespace Go.Cz.Wn
open Go.Cz.Ck
/-- Nothing among the instants that matter comes between. -/
theorem const_law {l : List Shift} {kind fr un wi a b c d : Int} (h0 : 0 ≤ a) (h1 : a ≤ b) (h2 : b ≤ 144001439) (h3 : 0 ≤ c) (h4 : c ≤ d) (h5 : d ≤ 144001439)
    (hn : datedB kind fr un wi = true → validB l = true → ∀ x, (x = fr ∨ x = fr + wi ∨ (0 ≤ un ∧ x = un)) → 0 ≤ beginF l x → ¬ (a < beginF l x ∧ beginF l x ≤ b) ∧ ¬ (c < beginF l x ∧ beginF l x ≤ d)) :
    appliesF l kind fr un wi a c = appliesF l kind fr un wi b d := by
  have i1 : instB a = true := by simp [instB]; omega
  have i2 : instB b = true := by simp [instB]; omega
  have i3 : instB c = true := by simp [instB]; omega
  have i4 : instB d = true := by simp [instB]; omega
  rcases hS : spanF l kind fr un wi with ⟨S1, S2, S3⟩
  by_cases h6 : S3 = 0
  · subst h6
    obtain ⟨hd, hv, e0, e1, e2⟩ := span_zero (l := l) (kind := kind) (fr := fr) (un := un) (wi := wi) (by rw [hS])
    rw [hS] at e1 e2
    dsimp only at e1 e2
    have k1 := hn hd hv fr (.inl rfl)
    have k2 := hn hd hv (fr + wi) (.inr (.inl rfl))
    have hb1 : beginF l fr = S1 := by unfold beginF; rw [if_pos e0, e1]
    have hs1 := (begin_ok hv fr).1
    have hs0 : 0 ≤ S1 := by
      rcases inst_ok hv fr with ⟨-, q, -⟩ | ⟨q, -⟩
      · rw [e1]; exact q
      · omega
    rw [hb1] at k1
    have k1' := k1 hs0
    have k3 : S2 < 0 ∨ (¬ (a < S2 ∧ S2 ≤ b) ∧ ¬ (c < S2 ∧ S2 ≤ d)) := by
      by_cases hu : un < 0
      · left; rw [if_pos hu] at e2; omega
      · rw [if_neg hu] at e2
        rcases Int.lt_or_le S2 0 with h | h
        · exact .inl h
        · right
          rw [e2]
          exact hn hd hv un (.inr (.inr ⟨by omega, rfl⟩)) (by rw [← e2]; exact h)
    obtain ⟨W, hW⟩ : ∃ W, W = beginF l (fr + wi) := ⟨_, rfl⟩
    rw [← hW] at k2
    unfold appliesF
    rw [hS, i1, i2, i3, i4, ← hW]
    have d1 : decide (S1 ≤ c) = decide (S1 ≤ d) := by rw [decide_eq_decide]; omega
    have d2 : (decide (S2 < 0) || decide (c < S2)) = (decide (S2 < 0) || decide (d < S2)) := by
      rcases k3 with k | k
      · rw [decide_eq_true k]; rfl
      · congr 1; rw [decide_eq_decide]; omega
    have d3 : decide (S1 ≤ a) = decide (S1 ≤ b) := by rw [decide_eq_decide]; omega
    have d4 : (decide (0 ≤ W) && decide (W ≤ c)) = (decide (0 ≤ W) && decide (W ≤ d)) := by
      by_cases hw : 0 ≤ W
      · have := k2 hw
        congr 1; rw [decide_eq_decide]; omega
      · rw [decide_eq_false hw]; rfl
    dsimp only
    rw [d1, d2, d3, d4]
  · rw [applies_no hS (.inl h6), applies_no hS (.inl h6)]
theorem changes_err {ms : List Ms} {au : List ByteArray} {zs : List (List Shift)} (h : (changesF ms au zs).2 ≠ 0) : (changesF ms au zs).1 = [] := by
  have hc : ∀ (ms : List Ms) (xs : List Int), (chg au zs ms xs).2 ≠ 0 → (chg au zs ms xs).1 = [] := by
    intro ms
    induction ms with
    | nil => intro xs h; exact absurd rfl h
    | cons m r ih =>
      intro xs h
      simp only [chg] at h ⊢
      split
      · rename_i h1; rw [if_pos h1] at h; exact ih _ h
      · rename_i h1
        rw [if_neg h1] at h
        split
        · rename_i h2; rw [if_pos h2] at h; exact ih _ h
        · rfl
  unfold changesF at h ⊢
  split
  · rfl
  · rename_i h1
    rw [if_neg h1] at h
    split
    · rfl
    · rename_i h2
      rw [if_neg h2] at h
      split
      · rename_i h3; rw [if_pos h3] at h; exact hc _ _ h
      · rfl
theorem chg_in (au : List ByteArray) (zs : List (List Shift)) (hv : ∀ i, i < au.length → validB (zs.getD i []) = true) : ∀ (ms : List Ms) (xs : List Int), xs.Pairwise (· < ·) → (∀ x ∈ xs, 0 ≤ x) → (chg au zs ms xs).2 = 0 →
    (chg au zs ms xs).1.Pairwise (· < ·) ∧ (∀ y ∈ (chg au zs ms xs).1, 0 ≤ y) ∧ (∀ x ∈ xs, x ∈ (chg au zs ms xs).1) ∧
    ∀ m ∈ ms, 0 ≤ Lib.idxOfS au m.auth → ∀ d ∈ daysF m, 0 ≤ beginF (zs.getD (Lib.idxOfS au m.auth).toNat []) d → beginF (zs.getD (Lib.idxOfS au m.auth).toNat []) d ∈ (chg au zs ms xs).1
  | [], xs, hs, h0, _ => ⟨hs, h0, fun _ h => h, fun m hm => by simp at hm⟩
  | m :: r, xs, hs, h0, h => by
    simp only [chg] at h ⊢
    by_cases h1 : Lib.idxOfS au m.auth < 0
    · rw [if_pos h1] at h ⊢
      obtain ⟨q1, q2, q3, q4⟩ := chg_in au zs hv r xs hs h0 h
      refine ⟨q1, q2, q3, fun m' hm' hi => ?_⟩
      rcases List.mem_cons.1 hm' with rfl | hm'
      · omega
      · exact q4 m' hm' hi
    · rw [if_neg h1] at h ⊢
      by_cases h2 : datedB m.kind m.fr m.un m.wi = true
      · rw [if_pos h2] at h ⊢
        have hlt := (idxOfS_lt au m.auth).2
        have hvz := hv (Lib.idxOfS au m.auth).toNat (by omega)
        obtain ⟨q1, q2, q3, q4⟩ := chg_in au zs hv r (beginsF (zs.getD (Lib.idxOfS au m.auth).toNat []) (daysF m) xs) (beginsF_sorted _ _ _ hs) (fun y hy => by
          rcases (beginsF_mem hvz).1 hy with h | ⟨d, -, h, rfl⟩
          · exact h0 y h
          · exact h) h
        refine ⟨q1, q2, fun x hx => q3 x ((beginsF_mem hvz).2 (.inl hx)), fun m' hm' hi d hd hb => ?_⟩
        rcases List.mem_cons.1 hm' with rfl | hm'
        · exact q3 _ ((beginsF_mem hvz).2 (.inr ⟨d, hd, hb, rfl⟩))
        · exact q4 m' hm' hi d hd hb
      · rw [if_neg h2] at h; cases h
/-- What is known of the changes, when there is no error. -/
structure RIn (r : List Int × Int) (ms : List Ms) (au : List ByteArray) (zs : List (List Shift)) : Prop where
  len : au.length = zs.length
  ok : ∀ i, i < au.length → validB (zs.getD i []) = true ∧ Lib.containsS (au.take i) (au.getD i ByteArray.empty) = false
  sorted : r.1.Pairwise (· < ·)
  pos : ∀ y ∈ r.1, 0 ≤ y
  zero : 0 ∈ r.1
  mem : ∀ m ∈ ms, 0 ≤ Lib.idxOfS au m.auth → ∀ d ∈ daysF m, 0 ≤ beginF (zs.getD (Lib.idxOfS au m.auth).toNat []) d → beginF (zs.getD (Lib.idxOfS au m.auth).toNat []) d ∈ r.1
theorem changes_in {ms : List Ms} {au : List ByteArray} {zs : List (List Shift)} (h : (changesF ms au zs).2 = 0) : RIn (changesF ms au zs) ms au zs := by
  unfold changesF at h ⊢
  by_cases h1 : 200 < ms.length ∨ 6 < au.length
  · rw [if_pos h1] at h; cases h
  rw [if_neg h1] at h ⊢
  by_cases h2 : au.length ≠ zs.length
  · rw [if_pos h2] at h; cases h
  rw [if_neg h2] at h ⊢
  by_cases h3 : (List.range au.length).all (authsOk au zs) = true
  · rw [if_pos h3] at h ⊢
    have hok : ∀ i, i < au.length → validB (zs.getD i []) = true ∧ Lib.containsS (au.take i) (au.getD i ByteArray.empty) = false := fun i hi => by
      have := List.all_eq_true.1 h3 i (List.mem_range.2 hi)
      unfold authsOk at this
      simp only [Bool.and_eq_true, Bool.not_eq_true'] at this
      exact ⟨this.2.1, this.2.2⟩
    obtain ⟨q1, q2, q3, q4⟩ := chg_in au zs (fun i hi => (hok i hi).1) ms [0] (by simp) (by simp) h
    exact ⟨by omega, hok, q1, q2, q3 0 (by simp), q4⟩
  · rw [if_neg h3] at h; cases h
theorem head_zero {xs : List Int} (h1 : xs.Pairwise (· < ·)) (h2 : ∀ y ∈ xs, 0 ≤ y) (h3 : 0 ∈ xs) : xs[0]? = some 0 := by
  rcases xs with _ | ⟨x, r⟩
  · simp at h3
  · rcases List.mem_cons.1 h3 with h | h
    · rw [← h]; rfl
    · have := (List.pairwise_cons.1 h1).1 0 h
      have := h2 x (by simp)
      omega
theorem sorted_get {xs : List Int} (h : xs.Pairwise (· < ·)) {i : Nat} {x y : Int} (hx : xs[i]? = some x) (hy : xs[i + 1]? = some y) : x < y := by
  obtain ⟨hi, rfl⟩ := List.getElem?_eq_some_iff.1 hx
  obtain ⟨hj, rfl⟩ := List.getElem?_eq_some_iff.1 hy
  exact List.pairwise_iff_getElem.1 h i (i + 1) hi hj (by omega)
theorem days_in (m : Ms) {x : Int} (h : x = m.fr ∨ x = m.fr + m.wi ∨ (0 ≤ m.un ∧ x = m.un)) : x ∈ daysF m := by
  unfold daysF
  rcases h with rfl | rfl | ⟨h, rfl⟩
  · simp
  · simp
  · rw [if_pos h]; simp
end Go.Cz.Wn
namespace Go.Proofs.YtkcbdlnoobjmbaaDoor
open Go.RowKit Go.Cz Go.Cz.Ck Go.Cz.Wn Go.Cz.Lx
set_option linter.unusedSimpArgs false
set_option linter.unusedVariables false
attribute [local go_sem] bs_size bs_extract bs_append bs_toList
attribute [local irreducible] cList
theorem ints_at {W : World} {v : Value} {xs : List Int} (h : IsInts W v xs) (hp : 0 < xs.length) : ∃ g c, v = .slice (some ⟨g, 0, none⟩) xs.length c ∧ ∀ W', Below W.heap.size W W' → g < W'.heap.size ∧ ∀ (j : Nat) (x : Int), xs[j]? = some x → W'.cell? ⟨g, j, none⟩ = some (.int .i64 x) := by
  rcases h with ⟨-, rfl⟩ | ⟨g, c, h1, h2, h3⟩
  · simp at hp
  · exact ⟨g, c, h1, fun W' hb => ⟨Nat.lt_of_lt_of_le h2 hb.size, fun j x hx => (hb.cell (p := ⟨g, j, none⟩) h2).trans (h3 j x hx)⟩⟩
theorem ints_nil {W : World} {v : Value} (h : IsInts W v []) : ∃ p c, v = .slice p 0 c := by
  rcases h with ⟨rfl, -⟩ | ⟨g, c, h1, -⟩
  · exact ⟨none, 0, rfl⟩
  · exact ⟨_, c, h1⟩
set_option maxRecDepth 20000 in
set_option maxHeartbeats 8000000 in
theorem WindowConstant_walk0 (w : World) (ma : Option Addr) (mn mc : Nat) (aa : Option Addr) (an ac : Nat) (za : Option Addr) (zn zc : Nat) (ms : List Ms) (au : List ByteArray) (zs : List Zn) (h : Lists w ma mn aa an ac za zn ms au zs) (a b c d : Int) :
    Calls Tryd.prog 7 #[.slice ma mn mc, .slice aa an ac, .slice za zn zc, .int .i64 a, .int .i64 b, .int .i64 c, .int .i64 d] w fun e w' => e = .returned (.bool true) ∧ Below w.heap.size w w' := by
  have HE := Lib.hid h
  clear h
  go_enter Tryd.func7, Tryd.ntmps7
  go_wp2_with fail
  go_at_call 10
  refine (head_c w).mono ?_
  rintro e W2 ⟨rfl, hb⟩
  have HB := Lib.hid hb
  clear hb
  go_wp2_with fail
  go_at_call 15
  have HE2 := Lib.hid (HE.out.below HB.out)
  refine (Few_c W2 ma mn mc aa an ac za zn zc ms au zs HE2.out.hm HE2.out.ha HE2.out.hz HE2.out.lm HE2.out.la HE2.out.lz).mono ?_
  rintro e W3 ⟨rfl, hb⟩
  obtain rfl : W3 = W2 := hb
  cases hf : fewB ms au zs
  · go_wp2_with fail
    go_ret
    exact ⟨rfl, HB.out⟩
  have HF := Lib.hid (few_true.1 hf)
  clear hf
  by_cases g0 : a < 0
  · go_wp2_with fail
    go_ret
    exact ⟨rfl, HB.out⟩
  by_cases g1 : b < a
  · go_wp2_with fail
    go_ret
    exact ⟨rfl, HB.out⟩
  by_cases g2 : 144001439 < b
  · go_wp2_with fail
    go_ret
    exact ⟨rfl, HB.out⟩
  by_cases g3 : c < 0
  · go_wp2_with fail
    go_ret
    exact ⟨rfl, HB.out⟩
  by_cases g4 : d < c
  · go_wp2_with fail
    go_ret
    exact ⟨rfl, HB.out⟩
  by_cases g5 : 144001439 < d
  · go_wp2_with fail
    go_ret
    exact ⟨rfl, HB.out⟩
  have HC := Lib.hid (HE2.out.env HF.out.2.1)
  obtain ⟨r, hr⟩ : ∃ r, r = changesF ms au (zs.map (·.l)) := ⟨_, rfl⟩
  have HRe : Hid (r.2 ≠ 0 → r.1 = []) := by rw [hr]; exact changes_err
  have HRi : Hid (r.2 = 0 → RIn r ms au (zs.map (·.l))) := by rw [hr]; exact changes_in
  have HLen : Hid (r.1.length ≤ 1000000) := by
    have h1 := changes_len ms au (zs.map (·.l))
    have h2 := HF.out.2.2.2.1
    show _ ≤ _
    rw [hr]
    omega
  go_wp2_with fail
  go_at_call 16
  refine (Changes_c W3 ma mn mc aa an ac za zn zc ms au zs HC.out).mono ?_
  rintro e W4 ⟨v, rfl, hv, hb⟩
  rw [← hr] at hv ⊢
  have HV := Lib.hid hv
  have HB4 := Lib.hid (HB.out.trans (hb.mono HB.out.size))
  clear hv hb HC HE2 HB
  have HB := HB4
  clear HB4
  by_cases hr2 : r.2 = 0
  · have HI := Lib.hid (HRi.out hr2)
    obtain ⟨r1, r2⟩ := r
    dsimp only at hr2 HV HI HLen ⊢
    subst hr2
    clear HRe HRi hr
    have h00 := head_zero HI.out.sorted HI.out.pos HI.out.zero
    have hpos : 0 < r1.length := (List.getElem?_eq_some_iff.1 h00).1
    obtain ⟨vg, vc, rfl, hVc⟩ := ints_at HV.out hpos
    have HVc := Lib.hid hVc
    obtain ⟨n, hn⟩ : ∃ n, n = r1.length := ⟨_, rfl⟩
    have HN : Hid (r1.length = n) := hn.symm
    have hnb : n ≤ 1000000 := by rw [hn]; exact HLen.out
    rw [← hn] at hpos ⊢
    obtain ⟨zg, hc⟩ := HVc.out W4 (Below.refl _ _)
    have c0 := hc 0 0 h00
    clear hc hVc hn h00 HV HLen
    have hn0 : ((n : Int) == 0) = false := by simp; omega
    go_wp2_with fail
    clear zg c0
    go_loopg [18] n (fun gk i wr => ∃ k : Nat, gk = n - k ∧ k ≤ n ∧ i = .int .i64 (k : Int) ∧ Hid (Below w.heap.size w wr ∧ Below W4.heap.size W4 wr) ∧ Hid (∀ j, j < k → ∀ y, r1[j]? = some y → ¬ (a < y ∧ y ≤ b) ∧ ¬ (c < y ∧ y ≤ d)))
    case atStart => exact ⟨0, rfl, Nat.zero_le _, rfl, Lib.hid ⟨HB.out, Below.refl _ _⟩, Lib.hid (fun j hj => by omega)⟩
    case round =>
      rename_i J1 K1 hJ1 hK1
      clear HB
      obtain ⟨k, rfl, hk, rfl, hw, hv⟩ := hrel
      by_cases hlt : k < n
      · obtain ⟨x, hx⟩ : ∃ x, r1[k]? = some x := get_of HN.out hlt
        have HB : Hid (Below w.heap.size w wr.drew) := hw.out.1.drew
        have HW : Hid (Below w.heap.size w wr.drew ∧ Below W4.heap.size W4 wr.drew) := ⟨hw.out.1.drew, hw.out.2.drew⟩
        obtain ⟨zg, hc⟩ := HVc.out wr hw.out.2
        have ck := hc k x hx
        have HX := Lib.hid hx
        by_cases hk0 : k = 0
        · have hk1 : ¬ 0 < k := by omega
          clear hc hx hw hk0
          go_wp2_with fail
          refine wp_region_can [] (List.range 14) (by kernel_rfl) (by kernel_rfl) ?_
          iterate 3 (refine cl_do rfl rfl rfl rfl (fun _ _ => ?_); go_wp2_with fail)
          iterate 10 (refine cl_no rfl rfl rfl ?_; go_simp)
          refine cl_do rfl rfl rfl rfl (fun _ _ => ?_)
          go_wp2_with fail
          refine cl_nil ?_
          by_cases ax : a < x
          · by_cases xb : x ≤ b
            · go_wp2_with fail
              go_ret
              exact ⟨rfl, HB.out⟩
            · by_cases cx : c < x
              · by_cases xd : x ≤ d
                · go_wp2_with fail
                  go_ret
                  exact ⟨rfl, HB.out⟩
                · have HV : Hid (∀ j, j < k + 1 → ∀ y, r1[j]? = some y → ¬ (a < y ∧ y ≤ b) ∧ ¬ (c < y ∧ y ≤ d)) := Lib.hid fun j hj y hy => by
                    by_cases hjk : j = k
                    · subst hjk
                      rw [HX.out] at hy
                      cases hy
                      omega
                    · exact hv.out j (by omega) y hy
                  clear hv
                  go_wp2_with fail
                  go_roundg (n - (k + 1))
                  case measure => omega
                  case rel => exact ⟨k + 1, rfl, by omega, by go_num, HW, HV⟩
              · have HV : Hid (∀ j, j < k + 1 → ∀ y, r1[j]? = some y → ¬ (a < y ∧ y ≤ b) ∧ ¬ (c < y ∧ y ≤ d)) := Lib.hid fun j hj y hy => by
                  by_cases hjk : j = k
                  · subst hjk
                    rw [HX.out] at hy
                    cases hy
                    omega
                  · exact hv.out j (by omega) y hy
                clear hv
                go_wp2_with fail
                go_roundg (n - (k + 1))
                case measure => omega
                case rel => exact ⟨k + 1, rfl, by omega, by go_num, HW, HV⟩
          · by_cases cx : c < x
            · by_cases xd : x ≤ d
              · go_wp2_with fail
                go_ret
                exact ⟨rfl, HB.out⟩
              · have HV : Hid (∀ j, j < k + 1 → ∀ y, r1[j]? = some y → ¬ (a < y ∧ y ≤ b) ∧ ¬ (c < y ∧ y ≤ d)) := Lib.hid fun j hj y hy => by
                  by_cases hjk : j = k
                  · subst hjk
                    rw [HX.out] at hy
                    cases hy
                    omega
                  · exact hv.out j (by omega) y hy
                clear hv
                go_wp2_with fail
                go_roundg (n - (k + 1))
                case measure => omega
                case rel => exact ⟨k + 1, rfl, by omega, by go_num, HW, HV⟩
            · have HV : Hid (∀ j, j < k + 1 → ∀ y, r1[j]? = some y → ¬ (a < y ∧ y ≤ b) ∧ ¬ (c < y ∧ y ≤ d)) := Lib.hid fun j hj y hy => by
                by_cases hjk : j = k
                · subst hjk
                  rw [HX.out] at hy
                  cases hy
                  omega
                · exact hv.out j (by omega) y hy
              clear hv
              go_wp2_with fail
              go_roundg (n - (k + 1))
              case measure => omega
              case rel => exact ⟨k + 1, rfl, by omega, by go_num, HW, HV⟩
        · obtain ⟨q, rfl⟩ : ∃ q, k = q + 1 := ⟨k - 1, by omega⟩
          obtain ⟨y, hy⟩ : ∃ y, r1[q]? = some y := get_of HN.out (by omega)
          have cq := hc q y hy
          have hyx := sorted_get HI.out.sorted hy hx
          clear hc hx hw hy hk0
          go_wp2_with fail
          refine wp_region_can [] (List.range 14) (by kernel_rfl) (by kernel_rfl) ?_
          iterate 3 (refine cl_do rfl rfl rfl rfl (fun _ _ => ?_); go_wp2_with fail)
          iterate 10 (refine cl_yes rfl rfl rfl rfl rfl (fun _ _ => ?_); go_wp2_with fail)
          refine cl_do rfl rfl rfl rfl (fun _ _ => ?_)
          go_wp2_with fail
          refine cl_nil ?_
          by_cases ax : a < x
          · by_cases xb : x ≤ b
            · go_wp2_with fail
              go_ret
              exact ⟨rfl, HB.out⟩
            · by_cases cx : c < x
              · by_cases xd : x ≤ d
                · go_wp2_with fail
                  go_ret
                  exact ⟨rfl, HB.out⟩
                · have HV : Hid (∀ j, j < (q + 1) + 1 → ∀ y, r1[j]? = some y → ¬ (a < y ∧ y ≤ b) ∧ ¬ (c < y ∧ y ≤ d)) := Lib.hid fun j hj y hy => by
                    by_cases hjk : j = (q + 1)
                    · subst hjk
                      rw [HX.out] at hy
                      cases hy
                      omega
                    · exact hv.out j (by omega) y hy
                  clear hv
                  go_wp2_with fail
                  go_roundg (n - ((q + 1) + 1))
                  case measure => omega
                  case rel => exact ⟨(q + 1) + 1, rfl, by omega, by go_num, HW, HV⟩
              · have HV : Hid (∀ j, j < (q + 1) + 1 → ∀ y, r1[j]? = some y → ¬ (a < y ∧ y ≤ b) ∧ ¬ (c < y ∧ y ≤ d)) := Lib.hid fun j hj y hy => by
                  by_cases hjk : j = (q + 1)
                  · subst hjk
                    rw [HX.out] at hy
                    cases hy
                    omega
                  · exact hv.out j (by omega) y hy
                clear hv
                go_wp2_with fail
                go_roundg (n - ((q + 1) + 1))
                case measure => omega
                case rel => exact ⟨(q + 1) + 1, rfl, by omega, by go_num, HW, HV⟩
          · by_cases cx : c < x
            · by_cases xd : x ≤ d
              · go_wp2_with fail
                go_ret
                exact ⟨rfl, HB.out⟩
              · have HV : Hid (∀ j, j < (q + 1) + 1 → ∀ y, r1[j]? = some y → ¬ (a < y ∧ y ≤ b) ∧ ¬ (c < y ∧ y ≤ d)) := Lib.hid fun j hj y hy => by
                  by_cases hjk : j = (q + 1)
                  · subst hjk
                    rw [HX.out] at hy
                    cases hy
                    omega
                  · exact hv.out j (by omega) y hy
                clear hv
                go_wp2_with fail
                go_roundg (n - ((q + 1) + 1))
                case measure => omega
                case rel => exact ⟨(q + 1) + 1, rfl, by omega, by go_num, HW, HV⟩
            · have HV : Hid (∀ j, j < (q + 1) + 1 → ∀ y, r1[j]? = some y → ¬ (a < y ∧ y ≤ b) ∧ ¬ (c < y ∧ y ≤ d)) := Lib.hid fun j hj y hy => by
                by_cases hjk : j = (q + 1)
                · subst hjk
                  rw [HX.out] at hy
                  cases hy
                  omega
                · exact hv.out j (by omega) y hy
              clear hv
              go_wp2_with fail
              go_roundg (n - ((q + 1) + 1))
              case measure => omega
              case rel => exact ⟨(q + 1) + 1, rfl, by omega, by go_num, HW, HV⟩
      · have HNC : Hid (∀ y ∈ r1, ¬ (a < y ∧ y ≤ b) ∧ ¬ (c < y ∧ y ≤ d)) := all_of_get HN.out fun j y hj hy => hv.out j (by omega) y hy
        have HB0 := Lib.hid hw.out.1
        clear hJ1 hK1 hv hw HVc
        have HNZ : Hid (an = zn) := by
          have := HI.out.len
          have h1 := HE.out.ha.1
          have h2 := HE.out.hz.1
          rw [List.length_map] at this
          show _ = _
          omega
        have han : an ≤ 8 := by have := HF.out.2.2.2.2.1; have h1 := HE.out.ha.1; omega
        have hmn : mn ≤ 30 := by have := HF.out.2.2.2.1; have h1 := HE.out.hm.1; omega
        go_wp2_with fail
        go_loopg [19] mn (fun gk i wr => ∃ k : Nat, gk = mn - k ∧ k ≤ mn ∧ i = .int .i64 (k : Int) ∧ Hid (Below w.heap.size w wr))
        case atStart => exact ⟨0, rfl, Nat.zero_le _, rfl, HB0⟩
        case round =>
          rename_i J1 K1 hJ1 hK1
          clear HB0 hlt hk
          obtain ⟨k, rfl, hk, rfl, hw⟩ := hrel
          by_cases hlt : k < mn
          · obtain ⟨m, hmk⟩ : ∃ m, ms[k]? = some m := get_of HE.out.hm.1 hlt
            obtain ⟨g, off, rfl, hM⟩ := HE.out.hm.at hlt hmk
            have HMc := Lib.hid hM
            have HMk := Lib.hid hmk
            clear hM hmk
            go_wp2_with fail
            go_loopg [20] an (fun gk i wr => ∃ q : Nat, gk = an - q ∧ q ≤ an ∧ i = .int .i64 (q : Int) ∧ Hid (Below w.heap.size w wr))
            case atStart => exact ⟨0, rfl, Nat.zero_le _, rfl, hw⟩
            case round =>
              rename_i J2 K2 hJ2 hK2
              clear hw
              obtain ⟨q, rfl, hq, rfl, hw⟩ := hrel
              by_cases hqa : q < an
              · obtain ⟨ga, oa, rfl, hAc⟩ := HE.out.ha.at (by omega)
                obtain ⟨gz, oz, rfl, hZc⟩ := HE.out.hz.at (by have := HNZ.out; omega)
                obtain ⟨z, hzk⟩ : ∃ z, zs[q]? = some z := get_of HE.out.hz.1 (by have := HNZ.out; omega)
                have hzl : (zs.map (·.l)).getD q [] = z.l := by rw [List.getD_eq_getElem?_getD, List.getElem?_map, hzk]; rfl
                obtain ⟨hga, ha⟩ := hAc _ hw.out
                have c1 := ha q hqa
                obtain ⟨s2, hs2⟩ : ∃ s2, s2 = au.getD q ByteArray.empty := ⟨_, rfl⟩
                rw [← hs2] at c1
                obtain ⟨zz, hz⟩ := hZc _ hw.out
                obtain ⟨cz, hsh⟩ := hz q z hzk
                have Hsh := Lib.hid hsh
                obtain ⟨zx, zn', zc', zl⟩ := z
                dsimp only at cz Hsh hzl
                obtain ⟨zm, m0, m1, m2, m3, m4, m5, m6, m7, m8, m9, m10, m11⟩ := HMc.out _ hw.out
                have hqz : q < zn := by have := HNZ.out; omega
                by_cases hse : m.auth = s2
                · have HL : Hid (appliesF zl m.kind m.fr m.un m.wi a c = appliesF zl m.kind m.fr m.un m.wi b d) := by
                    have hqz : q < au.length := by have := HE.out.ha.1; omega
                    have hidx : Lib.idxOfS au m.auth = q := (idx_is hqz fun i hi => (HI.out.ok i hi).2).1 (by rw [← hs2, hse])
                    refine const_law (by omega) (by omega) (by omega) (by omega) (by omega) (by omega) fun hd hv x hx hb => ?_
                    have h5 := HI.out.mem m (List.mem_of_getElem? HMk.out) (by omega) x (days_in m hx)
                    rw [hidx, Int.toNat_natCast, hzl] at h5
                    exact HNC.out _ (h5 hb)
                  have hb : (m.auth.toList == s2.toList) = true := (Lib.bytes_beq_iff _ _).2 hse
                  obtain ⟨A, hA⟩ : ∃ A, A = appliesF zl m.kind m.fr m.un m.wi a c := ⟨_, rfl⟩
                  have HA1 : Hid (appliesF zl m.kind m.fr m.un m.wi a c = A) := hA.symm
                  have HA2 : Hid (appliesF zl m.kind m.fr m.un m.wi b d = A) := by rw [hA]; exact HL.out.symm
                  clear hs2 ha hAc hZc hzk hzl hz hsh hse HL hA
                  go_wp2_with fail
                  refine wp_region_can [21, 32] [0, 1, 2, 3, 4, 5, 6, 7, 8, 9, 10, 11, 12, 13, 14, 15, 16, 17, 18, 19, 20, 22, 23, 24, 25, 26, 27, 28, 29, 30, 31, 21, 32, 33, 34] (by kernel_rfl) (by kernel_rfl) ?_
                  iterate 11 (refine cl_do rfl rfl rfl rfl (fun _ _ => ?_); go_wp2_with fail)
                  iterate 20 (refine cl_yes rfl rfl rfl rfl rfl (fun _ _ => ?_); go_wp2_with fail)
                  refine cl_ycall (i := 21) rfl rfl rfl rfl (fun K hK => ?_)
                  go_wp2_with fail
                  go_at_call 13
                  refine (Applies_c m zx zn' zc' zl a c _ (Hsh.out.below (by exact (Below.refl _ _).drew))).mono ?_
                  rintro e W5 ⟨rfl, hb5⟩
                  rw [HA1.out]
                  have Hb5 := Lib.hid hb5
                  have Hsh5 : Hid (IsShifts W5 zx zn' zl) := (Hsh.out.below (w' := wr.drew) ((Below.refl _ _).drew)).below hb5
                  have HB5 := Lib.hid (hw.out.drew.trans (hb5.mono hw.out.drew.size))
                  clear hb5
                  go_wp2_with fail
                  refine And.intro Hb5.out ?_
                  clear Hb5
                  refine cl_ycall (i := 32) rfl rfl rfl rfl (fun K hK => ?_)
                  go_wp2_with fail
                  go_at_call 13
                  refine (Applies_c m zx zn' zc' zl b d W5 Hsh5.out).mono ?_
                  rintro e W6 ⟨rfl, hb6⟩
                  rw [HA2.out]
                  have Hb6 := Lib.hid hb6
                  have HB6 := Lib.hid (HB5.out.trans (hb6.mono HB5.out.size))
                  clear hb6
                  go_wp2_with fail
                  refine And.intro Hb6.out ?_
                  clear Hb6
                  refine cl_yes rfl rfl rfl rfl rfl (fun _ _ => ?_)
                  go_wp2_with fail
                  refine cl_do rfl rfl rfl rfl (fun _ _ => ?_)
                  go_wp2_with fail
                  refine cl_nil ?_
                  go_wp2_with fail
                  go_roundg (an - (q + 1))
                  case measure => omega
                  case rel => exact ⟨q + 1, rfl, by omega, by go_num, HB6⟩
                · have hb : (m.auth.toList == s2.toList) = false := (Lib.bytes_beq_false_iff _ _).2 hse
                  have HB6 : Hid (Below w.heap.size w wr.drew) := hw.out.drew
                  clear hs2 ha hAc hZc hzk hzl hz hsh hse hw
                  go_wp2_with fail
                  refine wp_region_can [21, 32] [0, 1, 2, 3, 4, 5, 6, 7, 8, 9, 10, 11, 12, 13, 14, 15, 16, 17, 18, 19, 20, 22, 23, 24, 25, 26, 27, 28, 29, 30, 31, 21, 32, 33, 34] (by kernel_rfl) (by kernel_rfl) ?_
                  iterate 11 (refine cl_do rfl rfl rfl rfl (fun _ _ => ?_); go_wp2_with fail)
                  iterate 23 (refine cl_no rfl rfl rfl ?_; go_simp)
                  refine cl_do rfl rfl rfl rfl (fun _ _ => ?_)
                  go_wp2_with fail
                  refine cl_nil ?_
                  go_wp2_with fail
                  go_roundg (an - (q + 1))
                  case measure => omega
                  case rel => exact ⟨q + 1, rfl, by omega, by go_num, HB6⟩
              · clear hJ2 hK2
                go_wp2_with fail
                go_roundg (mn - (k + 1))
                case measure => omega
                case rel => exact ⟨k + 1, rfl, by omega, by go_num, hw⟩
          · clear hJ1 hK1
            go_wp2_with fail
            go_ret
            exact ⟨rfl, hw.out⟩
  · have h1 := HRe.out hr2
    obtain ⟨r1, r2⟩ := r
    dsimp only at h1 hr2 HV ⊢
    subst h1
    obtain ⟨p, pc, rfl⟩ := ints_nil HV.out
    have hr3 : (r2 != 0) = true := by simpa using hr2
    clear HRe HRi hr2
    go_wp2_with fail
    go_ret
    exact ⟨rfl, HB.out⟩
theorem WindowConstant_walk (w : World) (ma : Option Addr) (mn mc : Nat) (aa : Option Addr) (an ac : Nat) (za : Option Addr) (zn zc : Nat) (ms : List Ms) (au : List ByteArray) (zs : List Zn) (h : Lists w ma mn aa an ac za zn ms au zs)
    (a : Int) (wa : (Lit.int .i64 a).wf = true) (b : Int) (wb : (Lit.int .i64 b).wf = true) (c : Int) (wc : (Lit.int .i64 c).wf = true) (d : Int) (wd : (Lit.int .i64 d).wf = true) :
    Calls Tryd.prog 7 #[.slice ma mn mc, .slice aa an ac, .slice za zn zc, .int .i64 a, .int .i64 b, .int .i64 c, .int .i64 d] w fun e w' => e = .returned (.bool true) ∧ Below w.heap.size w w' := WindowConstant_walk0 w ma mn mc aa an ac za zn zc ms au zs h a b c d
end Go.Proofs.YtkcbdlnoobjmbaaDoor
