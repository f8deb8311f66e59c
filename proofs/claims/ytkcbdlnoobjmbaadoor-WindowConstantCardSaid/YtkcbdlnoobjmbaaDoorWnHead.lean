/-
  The windows' laws' 'head', and the reference's 'Ints'.
-/
import Derived.Test.YtkcbdlnoobjmbaaDoorWnChanges
import Derived.Test.YtkcbdlnoobjmbaaDoorWnApplies
namespace Go.Proofs.YtkcbdlnoobjmbaaDoor
open Go.RowKit Go.Cz Go.Cz.Ck Go.Cz.Wn Go.Cz.Lx
set_option linter.unusedSimpArgs false
set_option linter.unusedVariables false
attribute [local go_sem] bs_size bs_extract bs_append bs_toList
attribute [local irreducible] cList
set_option maxHeartbeats 2000000 in
theorem Ints_c (W : World) (a b : Value) (xs ys : List Int) (ha : IsInts W a xs) (hb : IsInts W b ys) (h1 : xs.length ≤ 1000000) (h2 : ys.length ≤ 1000000) : Calls Tryd.prog 18 #[a, b] W fun e w' => e = .returned (.bool (decide (xs = ys))) ∧ Below W.heap.size W w' := by
  have form : ∀ {v : Value} {zs : List Int}, IsInts W v zs → ∃ p c, v = .slice p zs.length c := by
    rintro v zs (⟨rfl, rfl⟩ | ⟨g, c, rfl, -⟩)
    · exact ⟨none, 0, rfl⟩
    · exact ⟨_, c, rfl⟩
  obtain ⟨p, c, rfl⟩ := form ha
  obtain ⟨p', c', rfl⟩ := form hb
  clear form
  have HA := Lib.hid (And.intro ha hb)
  clear ha hb
  by_cases hl : xs.length = ys.length
  · obtain ⟨n, hn⟩ : ∃ n, n = xs.length := ⟨_, rfl⟩
    have HN : Hid (xs.length = n ∧ ys.length = n) := ⟨hn.symm, by omega⟩
    have hn1 : n ≤ 1000000 := by omega
    rw [HN.out.1] at HA
    rw [HN.out.2] at HA
    rw [HN.out.1, HN.out.2]
    clear hn hl h1 h2
    go_enter Tryd.func18, Tryd.ntmps18
    go_wp2_with fail
    go_loopg [5] n (fun gk i wr => ∃ k : Nat, gk = n - k ∧ k ≤ n ∧ i = .int .i64 (k : Int) ∧ Hid (∀ j, j < k → xs[j]? = ys[j]?) ∧ Hid (Below W.heap.size W wr))
    case atStart => exact ⟨0, rfl, Nat.zero_le _, rfl, Lib.hid (fun j hj => by omega), Below.refl _ _⟩
    case round =>
      rename_i J1 K1 hJ1 hK1
      obtain ⟨k, rfl, hk, rfl, hv, hw⟩ := hrel
      by_cases hlt : k < n
      · obtain ⟨x, hx⟩ : ∃ x, xs[k]? = some x := ⟨_, List.getElem?_eq_getElem (by have := HN.out.1; omega)⟩
        obtain ⟨y, hy⟩ : ∃ y, ys[k]? = some y := ⟨_, List.getElem?_eq_getElem (by have := HN.out.2; omega)⟩
        obtain ⟨g, c1, e1, hg, ca⟩ : ∃ g c1, Value.slice p n c = .slice (some ⟨g, 0, none⟩) n c1 ∧ g < W.heap.size ∧ W.cell? ⟨g, k, none⟩ = some (.int .i64 x) := by
          rcases HA.out.1 with ⟨h, h0⟩ | ⟨g, c1, h, hg, hc⟩
          · rw [h0] at hx; simp at hx
          · rw [HN.out.1] at h
            exact ⟨g, c1, h, hg, hc k x hx⟩
        obtain ⟨g', c1', e1', hg', ca'⟩ : ∃ g c1, Value.slice p' n c' = .slice (some ⟨g, 0, none⟩) n c1 ∧ g < W.heap.size ∧ W.cell? ⟨g, k, none⟩ = some (.int .i64 y) := by
          rcases HA.out.2 with ⟨h, h0⟩ | ⟨g, c1, h, hg, hc⟩
          · rw [h0] at hy; simp at hy
          · rw [HN.out.2] at h
            exact ⟨g, c1, h, hg, hc k y hy⟩
        simp only [Value.slice.injEq] at e1 e1'
        obtain ⟨rfl, -, rfl⟩ := e1
        obtain ⟨rfl, -, rfl⟩ := e1'
        have q1 := (hw.out.cell (p := ⟨g, k, none⟩) hg).trans ca
        have q2 := (hw.out.cell (p := ⟨g', k, none⟩) hg').trans ca'
        have z1 : g < wr.heap.size := Nat.lt_of_lt_of_le hg hw.out.size
        have z2 : g' < wr.heap.size := Nat.lt_of_lt_of_le hg' hw.out.size
        have HX := Lib.hid (And.intro hx hy)
        have HWD : Hid (Below W.heap.size W wr.drew) := hw.out.drew
        clear hx hy ca ca' hg hg' hw
        by_cases hxy : x = y
        · subst hxy
          have HV : Hid (∀ j, j < k + 1 → xs[j]? = ys[j]?) := Lib.hid fun j hj => by
            by_cases hjk : j = k
            · subst hjk; rw [HX.out.1, HX.out.2]
            · exact hv.out j (by omega)
          clear hv
          go_wp2_with fail
          refine wp_region_can [] (List.range 9) (by kernel_rfl) (by kernel_rfl) ?_
          iterate 9 (refine cl_do rfl rfl rfl rfl (fun _ _ => ?_); go_wp2_with fail)
          refine cl_nil ?_
          go_wp2_with fail
          go_roundg (n - (k + 1))
          case measure => omega
          case rel => exact ⟨k + 1, rfl, by omega, by go_num, HV, HWD⟩
        · have He : Hid (decide (xs = ys) = false) := decide_eq_false fun h => hxy (by
            have h1 := HX.out.1
            rw [h, HX.out.2] at h1
            exact (Option.some.inj h1).symm)
          have hne : (x != y) = true := by simp [hxy]
          clear hv hxy
          go_wp2_with fail
          refine wp_region_can [] (List.range 9) (by kernel_rfl) (by kernel_rfl) ?_
          iterate 9 (refine cl_do rfl rfl rfl rfl (fun _ _ => ?_); go_wp2_with fail)
          refine cl_nil ?_
          go_wp2_with fail
          go_ret
          exact ⟨by rw [He.out]; rfl, HWD.out⟩
      · obtain rfl : n = k := by omega
        clear hJ1 hK1
        have He : Hid (decide (xs = ys) = true) := decide_eq_true (List.ext_getElem? fun j => by
          by_cases hj : j < n
          · exact hv.out j hj
          · rw [List.getElem?_eq_none (by have := HN.out.1; omega), List.getElem?_eq_none (by have := HN.out.2; omega)])
        clear hv
        go_wp2_with fail
        go_ret
        exact ⟨by rw [He.out]; rfl, hw.out⟩
  · have He : Hid (decide (xs = ys) = false) := decide_eq_false fun h => hl (by rw [h])
    have hl2 : ((xs.length : Int) != (ys.length : Int)) = true := by simp; omega
    clear hl
    go_enter Tryd.func18, Tryd.ntmps18
    go_wp2_with fail
    go_ret
    exact ⟨by rw [He.out]; rfl, Below.refl _ _⟩
def hm : Ms := ⟨⟨#[]⟩, ⟨#[101, 117]⟩, 1, ⟨#[]⟩, 0, ⟨#[]⟩, 0, 0, none, 0, 0, 5, 12, 2⟩
def hs : List Shift := [(0, 60), (14400, 0)]
theorem h_span : spanF hs 1 5 12 2 = (7140, 17280, 0) := by decide +kernel
theorem h_ch : changesF [hm] [⟨#[101, 117]⟩] [hs] = ([0, 7140, 10020, 17280], 0) := by decide +kernel
theorem h_a1 : appliesF hs 1 5 12 2 0 10019 = false := by decide +kernel
theorem h_a2 : appliesF hs 1 5 12 2 0 10020 = true := by decide +kernel
theorem h_a3 : appliesF hs 1 5 12 2 7140 7140 = true := by decide +kernel
theorem h_a4 : appliesF hs 1 5 12 2 7140 17280 = false := by decide +kernel
/-- What the walk of 'head' carries. -/
structure HdE (w W : World) (g Z M : Nat) : Prop where
  below : Below w.heap.size w W
  zb : Bk W Z #[.slice (some ⟨g, 0, none⟩) 2 2] 29
  mb : Bk W M hm.v 26
  sh : IsShifts W (some ⟨g, 0, none⟩) 2 hs
theorem HdE.next {w W W' : World} {g Z M : Nat} (h : HdE w W g Z M) (hb : Below W.heap.size W W') : Hid (HdE w W' g Z M) :=
  ⟨h.below.trans (hb.mono h.below.size), h.zb.below hb, h.mb.below hb, h.sh.below hb⟩
theorem HdE.cells {w W : World} {g Z M : Nat} (h : HdE w W g Z M) : Z < W.heap.size ∧ M < W.heap.size ∧ W.cell? ⟨Z, 0, none⟩ = some (.slice (some ⟨g, 0, none⟩) 2 2) ∧ W.cell? ⟨M, 0, none⟩ = some (.string ⟨#[]⟩) ∧ W.cell? ⟨M, 1, none⟩ = some (.string ⟨#[101, 117]⟩) ∧ W.cell? ⟨M, 2, none⟩ = some (.int .i64 1) ∧ W.cell? ⟨M, 3, none⟩ = some (.string ⟨#[]⟩) ∧ W.cell? ⟨M, 4, none⟩ = some (.int .i64 0) ∧ W.cell? ⟨M, 5, none⟩ = some (.string ⟨#[]⟩) ∧ W.cell? ⟨M, 6, none⟩ = some (.int .i64 0) ∧ W.cell? ⟨M, 7, none⟩ = some (.int .i64 0) ∧ W.cell? ⟨M, 8, none⟩ = some (.slice none 0 0) ∧ W.cell? ⟨M, 9, none⟩ = some (.int .i64 5) ∧ W.cell? ⟨M, 10, none⟩ = some (.int .i64 12) ∧ W.cell? ⟨M, 11, none⟩ = some (.int .i64 2) :=
  ⟨h.zb.lt, h.mb.lt, by rw [h.zb.cell]; rfl, by rw [h.mb.cell]; rfl, by rw [h.mb.cell]; rfl, by rw [h.mb.cell]; rfl, by rw [h.mb.cell]; rfl, by rw [h.mb.cell]; rfl, by rw [h.mb.cell]; rfl, by rw [h.mb.cell]; rfl, by rw [h.mb.cell]; rfl, by rw [h.mb.cell]; rfl, by rw [h.mb.cell]; rfl, by rw [h.mb.cell]; rfl, by rw [h.mb.cell]; rfl⟩
theorem hd_start (w : World) : HdE w (((w.alloc (.cells #[.int .i64 0, .int .i64 60, .int .i64 14400, .int .i64 0] 50)).alloc (.cells #[.slice (some ⟨w.heap.size, 0, none⟩) 2 2] 29)).alloc (.cells #[.string ⟨#[]⟩, .string ⟨#[101, 117]⟩, .int .i64 1, .string ⟨#[]⟩, .int .i64 0, .string ⟨#[]⟩, .int .i64 0, .int .i64 0, .slice none 0 0, .int .i64 5, .int .i64 12, .int .i64 2] 26)) w.heap.size (w.heap.size + 1) (w.heap.size + 1 + 1) := by
  have b1 := Bk.new w #[.int .i64 0, .int .i64 60, .int .i64 14400, .int .i64 0] 50
  have b1' := (b1.alloc (.cells #[.slice (some ⟨w.heap.size, 0, none⟩) 2 2] 29)).alloc (.cells #[.string ⟨#[]⟩, .string ⟨#[101, 117]⟩, .int .i64 1, .string ⟨#[]⟩, .int .i64 0, .string ⟨#[]⟩, .int .i64 0, .int .i64 0, .slice none 0 0, .int .i64 5, .int .i64 12, .int .i64 2] 26)
  refine ⟨(((Below.refl _ _).alloc (Nat.le_refl _) _).alloc (by simp) _).alloc (by simp; omega) _, ?_, ?_, rfl, by omega, .inr ⟨w.heap.size, 0, rfl, b1'.lt, fun j s hj => ?_⟩⟩
  · have := (Bk.new (w.alloc (.cells #[.int .i64 0, .int .i64 60, .int .i64 14400, .int .i64 0] 50)) #[.slice (some ⟨w.heap.size, 0, none⟩) 2 2] 29).alloc (.cells #[.string ⟨#[]⟩, .string ⟨#[101, 117]⟩, .int .i64 1, .string ⟨#[]⟩, .int .i64 0, .string ⟨#[]⟩, .int .i64 0, .int .i64 0, .slice none 0 0, .int .i64 5, .int .i64 12, .int .i64 2] 26)
    simpa using this
  · have := Bk.new ((w.alloc (.cells #[.int .i64 0, .int .i64 60, .int .i64 14400, .int .i64 0] 50)).alloc (.cells #[.slice (some ⟨w.heap.size, 0, none⟩) 2 2] 29)) hm.v 26
    simp only [World.size_alloc] at this
    exact this
  · rcases j with _ | _ | j
    · simp [hs] at hj; subst hj
      exact ⟨by rw [b1'.cell]; rfl, by rw [b1'.cell]; rfl⟩
    · simp [hs] at hj; subst hj
      exact ⟨by rw [b1'.cell]; rfl, by rw [b1'.cell]; rfl⟩
    · simp [hs] at hj
theorem ints_new (W : World) (a b c d : Int) : IsInts (W.alloc (.cells #[.int .i64 a, .int .i64 b, .int .i64 c, .int .i64 d] 3)) (.slice (some ⟨W.heap.size, 0, none⟩) 4 4) [a, b, c, d] := by
  have b1 := Bk.new W #[.int .i64 a, .int .i64 b, .int .i64 c, .int .i64 d] 3
  refine .inr ⟨_, 4, rfl, b1.lt, fun j x hj => ?_⟩
  rw [b1.cell]
  rcases j with _ | _ | _ | _ | j
  all_goals simp at hj
  all_goals subst hj; rfl
theorem IsInts.below {W W' : World} {v : Value} {xs : List Int} (h : IsInts W v xs) (hb : Below W.heap.size W W') : IsInts W' v xs := by
  rcases h with h | ⟨g, c, h1, h2, h3⟩
  · exact .inl h
  · exact .inr ⟨g, c, h1, Nat.lt_of_lt_of_le h2 hb.size, fun j x hx => (hb.cell (p := ⟨g, j, none⟩) h2).trans (h3 j x hx)⟩
theorem hd_env {w W : World} {g Z M : Nat} (h : HdE w W g Z M) : ChEnv (((W.alloc (.cells #[.string ⟨#[]⟩, .string ⟨#[101, 117]⟩, .int .i64 1, .string ⟨#[]⟩, .int .i64 0, .string ⟨#[]⟩, .int .i64 0, .int .i64 0, .slice none 0 0, .int .i64 5, .int .i64 12, .int .i64 2] 26)).alloc (.cells #[.string ⟨#[101, 117]⟩] 9)).alloc (.cells #[.slice (some ⟨g, 0, none⟩) 2 2] 29))
    (some ⟨W.heap.size, 0, none⟩) 1 (some ⟨W.heap.size + 1, 0, none⟩) 1 1 (some ⟨W.heap.size + 1 + 1, 0, none⟩) 1 [hm] [⟨#[101, 117]⟩] [⟨some ⟨g, 0, none⟩, 2, 2, hs⟩] := by
  have hb : Below W.heap.size W (((W.alloc (.cells #[.string ⟨#[]⟩, .string ⟨#[101, 117]⟩, .int .i64 1, .string ⟨#[]⟩, .int .i64 0, .string ⟨#[]⟩, .int .i64 0, .int .i64 0, .slice none 0 0, .int .i64 5, .int .i64 12, .int .i64 2] 26)).alloc (.cells #[.string ⟨#[101, 117]⟩] 9)).alloc (.cells #[.slice (some ⟨g, 0, none⟩) 2 2] 29)) := (((Below.refl _ _).alloc (Nat.le_refl _) _).alloc (by simp) _).alloc (by simp; omega) _
  have b1 := ((Bk.new W hm.v 26).alloc (.cells #[.string ⟨#[101, 117]⟩] 9)).alloc (.cells #[.slice (some ⟨g, 0, none⟩) 2 2] 29)
  have b2 := (Bk.new (W.alloc (.cells hm.v 26)) #[.string ⟨#[101, 117]⟩] 9).alloc (.cells #[.slice (some ⟨g, 0, none⟩) 2 2] 29)
  have b3 := Bk.new ((W.alloc (.cells hm.v 26)).alloc (.cells #[.string ⟨#[101, 117]⟩] 9)) #[.slice (some ⟨g, 0, none⟩) 2 2] 29
  simp only [World.size_alloc] at b2 b3
  refine ⟨⟨rfl, .inr ⟨_, 0, rfl, b1.lt, fun j m hj k u hu => ?_⟩⟩, ⟨rfl, .inr ⟨_, 0, rfl, b2.lt, fun j hj => ?_⟩⟩, ⟨rfl, .inr ⟨_, 0, rfl, b3.lt, fun j z hj => ?_⟩⟩, Nat.le_refl _, ?_, ?_⟩
  · rcases j with _ | j
    · simp at hj; subst hj
      simp only [Nat.zero_mul, Nat.zero_add]
      exact (b1.cell k).trans hu
    · simp at hj
  · have hj0 : j = 0 := by simpa using hj
    subst hj0
    exact (b2.cell 0).trans rfl
  · rcases j with _ | j
    · simp at hj; subst hj
      exact ⟨(b3.cell 0).trans rfl, h.sh.below hb⟩
    · simp at hj
  · intro a ha h34
    simp at ha; subst ha
    simp at h34
  · intro a ha
    simp at ha; subst ha
    decide
set_option maxRecDepth 20000 in
set_option maxHeartbeats 4000000 in
theorem head_c (w : World) : Calls Tryd.prog 10 #[] w fun e w' => e = .returned (.bool true) ∧ Below w.heap.size w w' := by
  have HE := Lib.hid (hd_start w)
  go_enter Tryd.func10, Tryd.ntmps10
  go_wp2_with fail
  obtain ⟨g, hg⟩ : ∃ g, g = w.heap.size := ⟨_, rfl⟩
  obtain ⟨W1, hW1⟩ : ∃ W1, W1 = ((w.alloc (.cells #[.int .i64 0, .int .i64 60, .int .i64 14400, .int .i64 0] 50)).alloc (.cells #[.slice (some ⟨w.heap.size, 0, none⟩) 2 2] 29)).alloc (.cells #[.string ⟨#[]⟩, .string ⟨#[101, 117]⟩, .int .i64 1, .string ⟨#[]⟩, .int .i64 0, .string ⟨#[]⟩, .int .i64 0, .int .i64 0, .slice none 0 0, .int .i64 5, .int .i64 12, .int .i64 2] 26) := ⟨_, rfl⟩
  rw [← hW1] at HE ⊢
  obtain ⟨Z, hZ⟩ : ∃ Z, Z = w.heap.size + 1 := ⟨_, rfl⟩
  rw [← hZ] at HE ⊢
  obtain ⟨M, hM⟩ : ∃ M, M = Z + 1 := ⟨_, rfl⟩
  rw [← hM] at HE ⊢
  rw [← hg] at HE ⊢
  clear hg hW1 hZ hM
  go_at_call 11
  refine (Span_c hm _ 2 2 hs _ HE.out.sh).mono ?_
  rintro e W2 ⟨rfl, hb⟩
  rw [show spanF hs hm.kind hm.fr hm.un hm.wi = (7140, 17280, 0) from h_span]
  replace HE := HE.out.next hb
  clear hb
  obtain ⟨z1, z2, cz, n0, n1, n2, n3, n4, n5, n6, n7, n8, n9, n10, n11⟩ := HE.out.cells
  go_wp2_with fail
  go_at_call 16
  refine (Changes_c _ _ 1 1 _ 1 1 _ 1 1 [hm] [⟨#[101, 117]⟩] [⟨some ⟨g, 0, none⟩, 2, 2, hs⟩] (hd_env HE.out)).mono ?_
  rintro e W3 ⟨v, rfl, hv, hb⟩
  rw [show changesF [hm] [⟨#[101, 117]⟩] (List.map (·.l) [(⟨some ⟨g, 0, none⟩, 2, 2, hs⟩ : Zn)]) = ([0, 7140, 10020, 17280], 0) from h_ch] at hv ⊢
  have HV := Lib.hid hv
  replace hb : Below W2.heap.size W2 W3 := ((((Below.refl W2.heap.size W2).alloc (Nat.le_refl _) _).alloc (by simp) _).alloc (by simp; omega) _).trans (hb.mono (by simp; omega))
  clear z1 z2 cz n0 n1 n2 n3 n4 n5 n6 n7 n8 n9 n10 n11
  replace HE := HE.out.next hb
  clear hb hv
  obtain ⟨z1, z2, cz, n0, n1, n2, n3, n4, n5, n6, n7, n8, n9, n10, n11⟩ := HE.out.cells
  go_wp2_with fail
  go_at_call 13
  refine (Applies_c hm _ 2 2 hs 0 10019 _ HE.out.sh).mono ?_
  rintro e W4 ⟨rfl, hb⟩
  rw [show appliesF hs hm.kind hm.fr hm.un hm.wi 0 10019 = false from h_a1]
  replace HV := Lib.hid (HV.out.below hb)
  clear z1 z2 cz n0 n1 n2 n3 n4 n5 n6 n7 n8 n9 n10 n11
  replace HE := HE.out.next hb
  clear hb
  obtain ⟨z1, z2, cz, n0, n1, n2, n3, n4, n5, n6, n7, n8, n9, n10, n11⟩ := HE.out.cells
  go_wp2_with fail
  go_at_call 13
  refine (Applies_c hm _ 2 2 hs 0 10020 _ HE.out.sh).mono ?_
  rintro e W5 ⟨rfl, hb⟩
  rw [show appliesF hs hm.kind hm.fr hm.un hm.wi 0 10020 = true from h_a2]
  replace HV := Lib.hid (HV.out.below hb)
  clear z1 z2 cz n0 n1 n2 n3 n4 n5 n6 n7 n8 n9 n10 n11
  replace HE := HE.out.next hb
  clear hb
  obtain ⟨z1, z2, cz, n0, n1, n2, n3, n4, n5, n6, n7, n8, n9, n10, n11⟩ := HE.out.cells
  go_wp2_with fail
  go_at_call 13
  refine (Applies_c hm _ 2 2 hs 7140 7140 _ HE.out.sh).mono ?_
  rintro e W6 ⟨rfl, hb⟩
  rw [show appliesF hs hm.kind hm.fr hm.un hm.wi 7140 7140 = true from h_a3]
  replace HV := Lib.hid (HV.out.below hb)
  clear z1 z2 cz n0 n1 n2 n3 n4 n5 n6 n7 n8 n9 n10 n11
  replace HE := HE.out.next hb
  clear hb
  obtain ⟨z1, z2, cz, n0, n1, n2, n3, n4, n5, n6, n7, n8, n9, n10, n11⟩ := HE.out.cells
  go_wp2_with fail
  go_at_call 13
  refine (Applies_c hm _ 2 2 hs 7140 17280 _ HE.out.sh).mono ?_
  rintro e W7 ⟨rfl, hb⟩
  rw [show appliesF hs hm.kind hm.fr hm.un hm.wi 7140 17280 = false from h_a4]
  replace HV := Lib.hid (HV.out.below hb)
  clear z1 z2 cz n0 n1 n2 n3 n4 n5 n6 n7 n8 n9 n10 n11
  replace HE := HE.out.next hb
  clear hb
  obtain ⟨z1, z2, cz, n0, n1, n2, n3, n4, n5, n6, n7, n8, n9, n10, n11⟩ := HE.out.cells
  go_wp2_with fail
  go_at_call 18
  refine (Ints_c _ v _ [0, 7140, 10020, 17280] [0, 7140, 10020, 17280] (HV.out.below ((Below.refl _ _).alloc (Nat.le_refl _) _)) (ints_new W7 0 7140 10020 17280) (by decide) (by decide)).mono ?_
  rintro e W8 ⟨rfl, hb⟩
  have HB : Hid (Below w.heap.size w W8) := (HE.out.below.alloc HE.out.below.size _).trans (hb.mono (Nat.le_trans HE.out.below.size (by simp)))
  clear hb
  rw [show decide (([0, 7140, 10020, 17280] : List Int) = [0, 7140, 10020, 17280]) = true from rfl]
  go_wp2_with fail
  go_ret
  exact ⟨rfl, HB.out⟩
end Go.Proofs.YtkcbdlnoobjmbaaDoor
