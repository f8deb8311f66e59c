/-
  'WindowPlain': the walk.
-/
import Derived.Test.YtkcbdlnoobjmbaaDoorWindowLaterW
namespace Go.Proofs.YtkcbdlnoobjmbaaDoor
open Go.RowKit Go.Cz Go.Cz.Ck Go.Cz.Wn
set_option linter.unusedSimpArgs false
set_option linter.unusedVariables false
attribute [local go_sem] bs_size bs_extract bs_append bs_toList
attribute [local irreducible] cList
theorem off_one {o t : Int} (ht : t ≤ 144001439) : Ck.off [(0, o)] t = o := by simp [Ck.off, spans, ht]
theorem plain_law {o kind fr un signed now S1 S2 d mi : Int} (h : spanF [(0, o)] kind fr un 0 = (S1, S2, 0)) (hl : localF [(0, o)] now = (d, mi, 0)) (hs : instB signed = true) :
    appliesF [(0, o)] kind fr un 0 signed now = (decide (fr ≤ d) && (un == -1 || decide (d < un))) := by
  obtain ⟨hd, hv, h0, -, -⟩ := span_zero (l := [(0, o)]) (kind := kind) (fr := fr) (un := un) (wi := 0) (by rw [h])
  obtain ⟨d1, d2, -, -, d5, -⟩ := dated_in hd
  have hn : instB now = true := by
    cases hi : instB now
    · unfold localF at hl
      rw [hi] at hl
      simp at hl
    · rfl
  obtain ⟨n1, n2⟩ := instB_true.1 hn
  have hdd : d = (now + o) / 1440 := by
    unfold localF at hl
    rw [hv, hn, if_pos (by rfl), off_one n2] at hl
    simp only [Prod.mk.injEq] at hl
    exact hl.1.symm
  have hF : (instF [(0, o)] fr 0).1 ≤ now ↔ fr * 1440 ≤ now + o := by
    rcases inst_law hv (d := fr) (m := 0) (by omega) (by omega) with ⟨-, k2, k3, k4, k5⟩ | ⟨k1, -⟩
    · rw [off_one k3] at k4
      constructor
      · intro q; omega
      · intro q
        rcases Int.lt_or_le now (instF [(0, o)] fr 0).1 with q2 | q2
        · have := k5 now n1 q2
          rw [off_one n2] at this
          omega
        · exact q2
    · omega
  have hU : (un < 0 ∨ beginF [(0, o)] un < 0 ∨ now < beginF [(0, o)] un) ↔ (un = -1 ∨ now + o < un * 1440) := by
    rcases Int.lt_or_le un 0 with hu | hu
    · constructor
      · intro _; left; omega
      · intro _; left; exact hu
    · unfold beginF
      rcases inst_law hv (d := un) (m := 0) (by omega) (by omega) with ⟨k1, k2, k3, k4, k5⟩ | ⟨k1, -, k5⟩
      · rw [if_pos k1]
        rw [off_one k3] at k4
        constructor
        · rintro (q | q | q)
          · omega
          · omega
          · right
            have := k5 now n1 q
            rw [off_one n2] at this
            omega
        · rintro (q | q)
          · omega
          · right; right; omega
      · rw [if_neg (by omega)]
        constructor
        · intro _
          right
          have := k5 now n1 n2
          rw [off_one n2] at this
          omega
        · intro _; right; left; omega
  have hB : beginF [(0, o)] (fr + 0) = (instF [(0, o)] fr 0).1 := by rw [Int.add_zero]; unfold beginF; rw [if_pos h0]
  have hp : 0 ≤ (instF [(0, o)] fr 0).1 := by
    rcases inst_ok hv fr with ⟨-, q, -⟩ | ⟨q, -⟩
    · exact q
    · omega
  rw [Bool.eq_iff_iff, applies_iff, hU, hB]
  simp only [Bool.and_eq_true, Bool.or_eq_true, decide_eq_true_eq, beq_iff_eq]
  constructor
  · rintro ⟨-, -, -, q1, q2, -⟩
    have := hF.1 q1
    exact ⟨by omega, by omega⟩
  · rintro ⟨q1, q2⟩
    have hS := hF.2 (by omega)
    exact ⟨⟨hd, hv, h0⟩, hs, hn, hS, by omega, .inr ⟨hp, hS⟩⟩
/-- What the walk carries. -/
structure PE (w W : World) (B Z : Nat) (m : Ms) (x : Option Addr) (n c : Nat) (l : List Shift) : Prop where
  below : Below w.heap.size w W
  mb : Bk W B m.v 26
  zb : Bk W Z #[.slice x n c] 29
  sh : IsShifts W x n l
theorem PE.keep {w W W' : World} {B Z : Nat} {m : Ms} {x : Option Addr} {n c : Nat} {l : List Shift} (h : PE w W B Z m x n c l) (hb : Below W.heap.size W W') : PE w W' B Z m x n c l :=
  ⟨h.below.trans (hb.mono h.below.size), h.mb.below hb, h.zb.below hb, h.sh.below hb⟩
theorem PE.cells {w W : World} {B Z : Nat} {m : Ms} {x : Option Addr} {n c : Nat} {l : List Shift} (h : PE w W B Z m x n c l) : B < W.heap.size ∧ Z < W.heap.size ∧ W.cell? ⟨Z, 0, none⟩ = some (.slice x n c) ∧
    W.cell? ⟨B, 0, none⟩ = some (.string m.id) ∧ W.cell? ⟨B, 1, none⟩ = some (.string m.auth) ∧ W.cell? ⟨B, 2, none⟩ = some (.int .i64 m.kind) ∧ W.cell? ⟨B, 3, none⟩ = some (.string m.target) ∧ W.cell? ⟨B, 4, none⟩ = some (.int .i64 m.op) ∧ W.cell? ⟨B, 5, none⟩ = some (.string m.name) ∧
    W.cell? ⟨B, 6, none⟩ = some (.int .i64 m.cmp) ∧ W.cell? ⟨B, 7, none⟩ = some (.int .i64 m.num) ∧ W.cell? ⟨B, 8, none⟩ = some (.slice m.ka m.kn m.kc) ∧ W.cell? ⟨B, 9, none⟩ = some (.int .i64 m.fr) ∧ W.cell? ⟨B, 10, none⟩ = some (.int .i64 m.un) ∧ W.cell? ⟨B, 11, none⟩ = some (.int .i64 m.wi) :=
  ⟨h.mb.lt, h.zb.lt, by rw [h.zb.cell]; rfl, by rw [h.mb.cell]; rfl, by rw [h.mb.cell]; rfl, by rw [h.mb.cell]; rfl, by rw [h.mb.cell]; rfl, by rw [h.mb.cell]; rfl, by rw [h.mb.cell]; rfl, by rw [h.mb.cell]; rfl, by rw [h.mb.cell]; rfl, by rw [h.mb.cell]; rfl, by rw [h.mb.cell]; rfl, by rw [h.mb.cell]; rfl, by rw [h.mb.cell]; rfl⟩
theorem PE.start {w W : World} {B : Nat} {m : Ms} {v : Value} {o : Int} (hb : Below w.heap.size w W) (hB : w.heap.size ≤ B) (hm : Bk W B (m.v.setIfInBounds 11 v) 26) :
    PE w (((W.setCell ⟨B, 11, none⟩ (.int .i64 m.wi)).alloc (.cells #[.int .i64 0, .int .i64 o] 50)).alloc (.cells #[.slice (some ⟨W.heap.size, 0, none⟩) 1 1] 29)) B (W.heap.size + 1) m (some ⟨W.heap.size, 0, none⟩) 1 1 [(0, o)] := by
  have e : (m.v.setIfInBounds 11 v).setIfInBounds 11 (.int .i64 m.wi) = m.v := by simp [Ms.v]
  have hm1 := hm.set 11 (.int .i64 m.wi)
  rw [e] at hm1
  have hb1 := hb.setCell (p := ⟨B, 11, none⟩) hB (.int .i64 m.wi)
  have hs : (W.setCell ⟨B, 11, none⟩ (.int .i64 m.wi)).heap.size = W.heap.size := by simp
  obtain ⟨V, hV⟩ : ∃ V, V = W.setCell ⟨B, 11, none⟩ (.int .i64 m.wi) := ⟨_, rfl⟩
  rw [← hV] at hm1 hb1 hs ⊢
  rw [← hs]
  have b1 := (Bk.new V #[.int .i64 0, .int .i64 o] 50).alloc (.cells #[.slice (some ⟨V.heap.size, 0, none⟩) 1 1] 29)
  have b2 := Bk.new (V.alloc (.cells #[.int .i64 0, .int .i64 o] 50)) #[.slice (some ⟨V.heap.size, 0, none⟩) 1 1] 29
  simp only [World.size_alloc] at b2
  have b3 := (hm1.alloc (.cells #[.int .i64 0, .int .i64 o] 50)).alloc (.cells #[.slice (some ⟨V.heap.size, 0, none⟩) 1 1] 29)
  refine ⟨((hb1.alloc hb1.size _).alloc (by simp; have := hb1.size; omega) _), b3, b2, rfl, by omega, .inr ⟨V.heap.size, 0, rfl, b1.lt, fun j s hj => ?_⟩⟩
  rcases j with _ | j
  · simp at hj; subst hj
    exact ⟨by rw [b1.cell]; rfl, by rw [b1.cell]; rfl⟩
  · simp at hj
set_option maxRecDepth 10000 in
set_option maxHeartbeats 4000000 in
theorem WindowPlain_walk0 (w : World) (m : Ms) (o signed now : Int) :
    Calls Tryd.prog 9 #[.agg m.v, .int .i64 o, .int .i64 signed, .int .i64 now] w fun e w' => e = .returned (.bool true) ∧ Below w.heap.size w w' := by
  obtain ⟨B, hB⟩ : ∃ B, B = w.heap.size := ⟨_, rfl⟩
  obtain ⟨id, auth, kind, target, op, name, cmp, num, ka, kn, kc, fr, un, wi⟩ := m
  dsimp only [Ms.v]
  have HE0 : Hid (Below w.heap.size w (w.alloc (.cells #[.string id, .string auth, .int .i64 kind, .string target, .int .i64 op, .string name, .int .i64 cmp, .int .i64 num, .slice ka kn kc, .int .i64 fr, .int .i64 un, .int .i64 wi] 26)) ∧ Bk (w.alloc (.cells #[.string id, .string auth, .int .i64 kind, .string target, .int .i64 op, .string name, .int .i64 cmp, .int .i64 num, .slice ka kn kc, .int .i64 fr, .int .i64 un, .int .i64 wi] 26)) B #[.string id, .string auth, .int .i64 kind, .string target, .int .i64 op, .string name, .int .i64 cmp, .int .i64 num, .slice ka kn kc, .int .i64 fr, .int .i64 un, .int .i64 wi] 26 ∧ w.heap.size ≤ B) := by
    rw [hB]; exact ⟨(Below.refl _ _).alloc (Nat.le_refl _) _, Bk.new _ _ _, Nat.le_refl _⟩
  go_enter Tryd.func9, Tryd.ntmps9
  go_wp2_with fail
  rw [← hB]
  clear hB
  go_at_call 10
  refine (head_c _).mono ?_
  rintro e W2 ⟨rfl, hb⟩
  have HE2 : Hid (Below w.heap.size w W2 ∧ Bk W2 B #[.string id, .string auth, .int .i64 kind, .string target, .int .i64 op, .string name, .int .i64 cmp, .int .i64 num, .slice ka kn kc, .int .i64 fr, .int .i64 un, .int .i64 wi] 26 ∧ w.heap.size ≤ B) := ⟨HE0.out.1.trans (hb.mono HE0.out.1.size), HE0.out.2.1.below hb, HE0.out.2.2⟩
  clear hb HE0
  have z0 := HE2.out.2.1.lt
  have f11 : W2.frozen? ⟨B, 11, none⟩ = false := HE2.out.2.1.free 11
  have n0 : W2.cell? ⟨B, 0, none⟩ = some (.string id) := by rw [HE2.out.2.1.cell]; rfl
  have n1 : W2.cell? ⟨B, 1, none⟩ = some (.string auth) := by rw [HE2.out.2.1.cell]; rfl
  have n2 : W2.cell? ⟨B, 2, none⟩ = some (.int .i64 kind) := by rw [HE2.out.2.1.cell]; rfl
  have n3 : W2.cell? ⟨B, 3, none⟩ = some (.string target) := by rw [HE2.out.2.1.cell]; rfl
  have n4 : W2.cell? ⟨B, 4, none⟩ = some (.int .i64 op) := by rw [HE2.out.2.1.cell]; rfl
  have n5 : W2.cell? ⟨B, 5, none⟩ = some (.string name) := by rw [HE2.out.2.1.cell]; rfl
  have n6 : W2.cell? ⟨B, 6, none⟩ = some (.int .i64 cmp) := by rw [HE2.out.2.1.cell]; rfl
  have n7 : W2.cell? ⟨B, 7, none⟩ = some (.int .i64 num) := by rw [HE2.out.2.1.cell]; rfl
  have n8 : W2.cell? ⟨B, 8, none⟩ = some (.slice ka kn kc) := by rw [HE2.out.2.1.cell]; rfl
  have n9 : W2.cell? ⟨B, 9, none⟩ = some (.int .i64 fr) := by rw [HE2.out.2.1.cell]; rfl
  have n10 : W2.cell? ⟨B, 10, none⟩ = some (.int .i64 un) := by rw [HE2.out.2.1.cell]; rfl
  have n11 : W2.cell? ⟨B, 11, none⟩ = some (.int .i64 wi) := by rw [HE2.out.2.1.cell]; rfl
  have HS3 := Lib.hid (PE.start (m := ⟨id, auth, kind, target, op, name, cmp, num, ka, kn, kc, fr, un, 0⟩) (v := .int .i64 wi) (o := o) HE2.out.1 HE2.out.2.2 HE2.out.2.1)
  go_wp2_with fail
  obtain ⟨g, hg⟩ : ∃ g, g = W2.heap.size := ⟨_, rfl⟩
  obtain ⟨W3, hW3⟩ : ∃ W3, W3 = (((W2.setCell ⟨B, 11, none⟩ (.int .i64 0)).alloc (.cells #[.int .i64 0, .int .i64 o] 50)).alloc (.cells #[.slice (some ⟨W2.heap.size, 0, none⟩) 1 1] 29)) := ⟨_, rfl⟩
  obtain ⟨Z, hZ⟩ : ∃ Z, Z = W2.heap.size + 1 := ⟨_, rfl⟩
  try dsimp only at HS3
  rw [← hW3, ← hZ] at HS3 ⊢
  rw [← hg] at HS3 ⊢
  have HE := HS3
  clear HS3 HE2 hW3 hZ hg z0 f11 n0 n1 n2 n3 n4 n5 n6 n7 n8 n9 n10 n11
  rcases hS : spanF [(0, o)] kind fr un 0 with ⟨S1, S2, S3⟩
  have HS := Lib.hid hS
  rcases hL : localF [(0, o)] now with ⟨d, mi, e1⟩
  have HL := Lib.hid hL
  clear hS hL
  go_at_call 11
  refine (Span_c ⟨id, auth, kind, target, op, name, cmp, num, ka, kn, kc, fr, un, 0⟩ _ 1 1 [(0, o)] W3 HE.out.sh).mono ?_
  rintro e W3' ⟨rfl, hb⟩
  dsimp only
  rw [HS.out]
  (try clear z1 z2 cz n0 n1 n2 n3 n4 n5 n6 n7 n8 n9 n10 n11)
  replace HE := Lib.hid (HE.out.keep hb)
  clear hb
  obtain ⟨z1, z2, cz, n0, n1, n2, n3, n4, n5, n6, n7, n8, n9, n10, n11⟩ := HE.out.cells
  dsimp only at n0 n1 n2 n3 n4 n5 n6 n7 n8 n9 n10 n11
  go_wp2_with fail
  go_at_call 21
  refine (Local_c _ 1 1 [(0, o)] now W3' HE.out.sh).mono ?_
  rintro e W4 ⟨rfl, hb⟩
  rw [HL.out]
  (try clear z1 z2 cz n0 n1 n2 n3 n4 n5 n6 n7 n8 n9 n10 n11)
  replace HE := Lib.hid (HE.out.keep hb)
  clear hb
  obtain ⟨z1, z2, cz, n0, n1, n2, n3, n4, n5, n6, n7, n8, n9, n10, n11⟩ := HE.out.cells
  dsimp only at n0 n1 n2 n3 n4 n5 n6 n7 n8 n9 n10 n11
  by_cases h3 : S3 = 0
  · have q3 : (S3 != 0) = false := by simp [h3]
    by_cases h4 : e1 = 0
    · have q4 : (e1 != 0) = false := by simp [h4]
      by_cases s1 : signed < 0
      · have q5 : decide (signed < 0) = true := decide_eq_true s1
        have HA := Lib.hid (applies_no (now := now) HS.out (.inr (.inl (instB_false.2 (.inl s1)))))
        go_wp2_with fail
        go_at_call 13
        refine (Applies_c ⟨id, auth, kind, target, op, name, cmp, num, ka, kn, kc, fr, un, 0⟩ _ 1 1 [(0, o)] signed now W4 HE.out.sh).mono ?_
        rintro e W5 ⟨rfl, hb⟩
        dsimp only
        rw [HA.out]
        (try clear z1 z2 cz n0 n1 n2 n3 n4 n5 n6 n7 n8 n9 n10 n11)
        replace HE := Lib.hid (HE.out.keep hb)
        clear hb
        obtain ⟨z1, z2, cz, n0, n1, n2, n3, n4, n5, n6, n7, n8, n9, n10, n11⟩ := HE.out.cells
        dsimp only at n0 n1 n2 n3 n4 n5 n6 n7 n8 n9 n10 n11
        go_wp2_with fail
        go_ret
        exact ⟨rfl, HE.out.below⟩
      have q5 : decide (signed < 0) = false := decide_eq_false s1
      by_cases s2 : 144001439 < signed
      · have q6 : decide (144001439 < signed) = true := decide_eq_true s2
        have HA := Lib.hid (applies_no (now := now) HS.out (.inr (.inl (instB_false.2 (.inr s2)))))
        go_wp2_with fail
        go_at_call 13
        refine (Applies_c ⟨id, auth, kind, target, op, name, cmp, num, ka, kn, kc, fr, un, 0⟩ _ 1 1 [(0, o)] signed now W4 HE.out.sh).mono ?_
        rintro e W5 ⟨rfl, hb⟩
        dsimp only
        rw [HA.out]
        (try clear z1 z2 cz n0 n1 n2 n3 n4 n5 n6 n7 n8 n9 n10 n11)
        replace HE := Lib.hid (HE.out.keep hb)
        clear hb
        obtain ⟨z1, z2, cz, n0, n1, n2, n3, n4, n5, n6, n7, n8, n9, n10, n11⟩ := HE.out.cells
        dsimp only at n0 n1 n2 n3 n4 n5 n6 n7 n8 n9 n10 n11
        go_wp2_with fail
        go_ret
        exact ⟨rfl, HE.out.below⟩
      have q6 : decide (144001439 < signed) = false := decide_eq_false s2
      have HA := Lib.hid (plain_law (signed := signed) (h3 ▸ HS.out) (h4 ▸ HL.out) (instB_true.2 ⟨by omega, by omega⟩))
      clear h3 h4 HS HL
      go_wp2_with fail
      by_cases c1 : fr ≤ d
      · have p1 : decide (fr ≤ d) = true := decide_eq_true c1
        by_cases c2 : un = -1
        · have p2 : (un == -1) = true := by simp [c2]
          have HB : Hid (appliesF [(0, o)] kind fr un 0 signed now = true) := Lib.hid (by rw [HA.out, p1, p2]; rfl)
          clear HA c1 c2
          refine wp_region_can [6] [0, 1, 2, 3, 4, 5, 7, 8, 9, 10, 6, 11, 12, 13, 14, 15, 16, 17, 18, 19, 20, 21, 22, 23, 24] (by kernel_rfl) (by kernel_rfl) ?_
          have hb : Below W4.heap.size W4 W4.drew := (Below.refl _ _).drew
          (try clear z1 z2 cz n0 n1 n2 n3 n4 n5 n6 n7 n8 n9 n10 n11)
          replace HE := Lib.hid (HE.out.keep hb)
          clear hb
          obtain ⟨z1, z2, cz, n0, n1, n2, n3, n4, n5, n6, n7, n8, n9, n10, n11⟩ := HE.out.cells
          dsimp only at n0 n1 n2 n3 n4 n5 n6 n7 n8 n9 n10 n11
          iterate 10 (first | (refine cl_do rfl rfl rfl rfl (fun _ _ => ?_); go_wp2_with fail) | (refine cl_yes rfl rfl rfl rfl rfl (fun _ _ => ?_); go_wp2_with fail) | (refine cl_no rfl rfl rfl ?_; go_simp) | (refine cl_skip rfl rfl ?_; go_simp))
          first | refine cl_ycall (i := 6) rfl rfl rfl rfl (fun K hK => ?_) | refine cl_call (i := 6) rfl rfl rfl (fun K hK => ?_)
          go_wp2_with fail
          go_at_call 13
          refine (Applies_c ⟨id, auth, kind, target, op, name, cmp, num, ka, kn, kc, fr, un, 0⟩ _ 1 1 [(0, o)] signed now _ HE.out.sh).mono ?_
          rintro e W5 ⟨rfl, hb⟩
          dsimp only
          rw [HB.out]
          have Hb := Lib.hid hb
          (try clear z1 z2 cz n0 n1 n2 n3 n4 n5 n6 n7 n8 n9 n10 n11)
          replace HE := Lib.hid (HE.out.keep hb)
          clear hb
          obtain ⟨z1, z2, cz, n0, n1, n2, n3, n4, n5, n6, n7, n8, n9, n10, n11⟩ := HE.out.cells
          dsimp only at n0 n1 n2 n3 n4 n5 n6 n7 n8 n9 n10 n11
          go_wp2_with fail
          refine And.intro Hb.out ?_
          clear Hb
          iterate 14 (first | (refine cl_do rfl rfl rfl rfl (fun _ _ => ?_); go_wp2_with fail) | (refine cl_yes rfl rfl rfl rfl rfl (fun _ _ => ?_); go_wp2_with fail) | (refine cl_no rfl rfl rfl ?_; go_simp) | (refine cl_skip rfl rfl ?_; go_simp))
          refine cl_nil ?_
          go_wp2_with fail
          go_ret
          exact ⟨rfl, HE.out.below⟩
        have p2 : (un == -1) = false := by simp [c2]
        by_cases c3 : d < un
        · have p3 : decide (d < un) = true := decide_eq_true c3
          have HB : Hid (appliesF [(0, o)] kind fr un 0 signed now = true) := Lib.hid (by rw [HA.out, p1, p2, p3]; rfl)
          clear HA c1 c2 c3
          refine wp_region_can [6] [0, 1, 2, 3, 4, 5, 7, 8, 9, 10, 6, 11, 12, 13, 14, 15, 16, 17, 18, 19, 20, 21, 22, 23, 24] (by kernel_rfl) (by kernel_rfl) ?_
          have hb : Below W4.heap.size W4 W4.drew := (Below.refl _ _).drew
          (try clear z1 z2 cz n0 n1 n2 n3 n4 n5 n6 n7 n8 n9 n10 n11)
          replace HE := Lib.hid (HE.out.keep hb)
          clear hb
          obtain ⟨z1, z2, cz, n0, n1, n2, n3, n4, n5, n6, n7, n8, n9, n10, n11⟩ := HE.out.cells
          dsimp only at n0 n1 n2 n3 n4 n5 n6 n7 n8 n9 n10 n11
          iterate 10 (first | (refine cl_do rfl rfl rfl rfl (fun _ _ => ?_); go_wp2_with fail) | (refine cl_yes rfl rfl rfl rfl rfl (fun _ _ => ?_); go_wp2_with fail) | (refine cl_no rfl rfl rfl ?_; go_simp) | (refine cl_skip rfl rfl ?_; go_simp))
          first | refine cl_ycall (i := 6) rfl rfl rfl rfl (fun K hK => ?_) | refine cl_call (i := 6) rfl rfl rfl (fun K hK => ?_)
          go_wp2_with fail
          go_at_call 13
          refine (Applies_c ⟨id, auth, kind, target, op, name, cmp, num, ka, kn, kc, fr, un, 0⟩ _ 1 1 [(0, o)] signed now _ HE.out.sh).mono ?_
          rintro e W5 ⟨rfl, hb⟩
          dsimp only
          rw [HB.out]
          have Hb := Lib.hid hb
          (try clear z1 z2 cz n0 n1 n2 n3 n4 n5 n6 n7 n8 n9 n10 n11)
          replace HE := Lib.hid (HE.out.keep hb)
          clear hb
          obtain ⟨z1, z2, cz, n0, n1, n2, n3, n4, n5, n6, n7, n8, n9, n10, n11⟩ := HE.out.cells
          dsimp only at n0 n1 n2 n3 n4 n5 n6 n7 n8 n9 n10 n11
          go_wp2_with fail
          refine And.intro Hb.out ?_
          clear Hb
          iterate 14 (first | (refine cl_do rfl rfl rfl rfl (fun _ _ => ?_); go_wp2_with fail) | (refine cl_yes rfl rfl rfl rfl rfl (fun _ _ => ?_); go_wp2_with fail) | (refine cl_no rfl rfl rfl ?_; go_simp) | (refine cl_skip rfl rfl ?_; go_simp))
          refine cl_nil ?_
          go_wp2_with fail
          go_ret
          exact ⟨rfl, HE.out.below⟩
        have p3 : decide (d < un) = false := decide_eq_false c3
        have HB : Hid (appliesF [(0, o)] kind fr un 0 signed now = false) := Lib.hid (by rw [HA.out, p1, p2, p3]; rfl)
        clear HA c1 c2 c3
        refine wp_region_can [6] [0, 1, 2, 3, 4, 5, 7, 8, 9, 10, 6, 11, 12, 13, 14, 15, 16, 17, 18, 19, 20, 21, 22, 23, 24] (by kernel_rfl) (by kernel_rfl) ?_
        have hb : Below W4.heap.size W4 W4.drew := (Below.refl _ _).drew
        (try clear z1 z2 cz n0 n1 n2 n3 n4 n5 n6 n7 n8 n9 n10 n11)
        replace HE := Lib.hid (HE.out.keep hb)
        clear hb
        obtain ⟨z1, z2, cz, n0, n1, n2, n3, n4, n5, n6, n7, n8, n9, n10, n11⟩ := HE.out.cells
        dsimp only at n0 n1 n2 n3 n4 n5 n6 n7 n8 n9 n10 n11
        iterate 10 (first | (refine cl_do rfl rfl rfl rfl (fun _ _ => ?_); go_wp2_with fail) | (refine cl_yes rfl rfl rfl rfl rfl (fun _ _ => ?_); go_wp2_with fail) | (refine cl_no rfl rfl rfl ?_; go_simp) | (refine cl_skip rfl rfl ?_; go_simp))
        first | refine cl_ycall (i := 6) rfl rfl rfl rfl (fun K hK => ?_) | refine cl_call (i := 6) rfl rfl rfl (fun K hK => ?_)
        go_wp2_with fail
        go_at_call 13
        refine (Applies_c ⟨id, auth, kind, target, op, name, cmp, num, ka, kn, kc, fr, un, 0⟩ _ 1 1 [(0, o)] signed now _ HE.out.sh).mono ?_
        rintro e W5 ⟨rfl, hb⟩
        dsimp only
        rw [HB.out]
        have Hb := Lib.hid hb
        (try clear z1 z2 cz n0 n1 n2 n3 n4 n5 n6 n7 n8 n9 n10 n11)
        replace HE := Lib.hid (HE.out.keep hb)
        clear hb
        obtain ⟨z1, z2, cz, n0, n1, n2, n3, n4, n5, n6, n7, n8, n9, n10, n11⟩ := HE.out.cells
        dsimp only at n0 n1 n2 n3 n4 n5 n6 n7 n8 n9 n10 n11
        go_wp2_with fail
        refine And.intro Hb.out ?_
        clear Hb
        iterate 14 (first | (refine cl_do rfl rfl rfl rfl (fun _ _ => ?_); go_wp2_with fail) | (refine cl_yes rfl rfl rfl rfl rfl (fun _ _ => ?_); go_wp2_with fail) | (refine cl_no rfl rfl rfl ?_; go_simp) | (refine cl_skip rfl rfl ?_; go_simp))
        refine cl_nil ?_
        go_wp2_with fail
        go_ret
        exact ⟨rfl, HE.out.below⟩
      have p1 : decide (fr ≤ d) = false := decide_eq_false c1
      have HB : Hid (appliesF [(0, o)] kind fr un 0 signed now = false) := Lib.hid (by rw [HA.out, p1]; rfl)
      clear HA c1
      refine wp_region_can [6] [0, 1, 2, 3, 4, 5, 7, 8, 9, 10, 6, 11, 12, 13, 14, 15, 16, 17, 18, 19, 20, 21, 22, 23, 24] (by kernel_rfl) (by kernel_rfl) ?_
      have hb : Below W4.heap.size W4 W4.drew := (Below.refl _ _).drew
      (try clear z1 z2 cz n0 n1 n2 n3 n4 n5 n6 n7 n8 n9 n10 n11)
      replace HE := Lib.hid (HE.out.keep hb)
      clear hb
      obtain ⟨z1, z2, cz, n0, n1, n2, n3, n4, n5, n6, n7, n8, n9, n10, n11⟩ := HE.out.cells
      dsimp only at n0 n1 n2 n3 n4 n5 n6 n7 n8 n9 n10 n11
      iterate 10 (first | (refine cl_do rfl rfl rfl rfl (fun _ _ => ?_); go_wp2_with fail) | (refine cl_yes rfl rfl rfl rfl rfl (fun _ _ => ?_); go_wp2_with fail) | (refine cl_no rfl rfl rfl ?_; go_simp) | (refine cl_skip rfl rfl ?_; go_simp))
      first | refine cl_ycall (i := 6) rfl rfl rfl rfl (fun K hK => ?_) | refine cl_call (i := 6) rfl rfl rfl (fun K hK => ?_)
      go_wp2_with fail
      go_at_call 13
      refine (Applies_c ⟨id, auth, kind, target, op, name, cmp, num, ka, kn, kc, fr, un, 0⟩ _ 1 1 [(0, o)] signed now _ HE.out.sh).mono ?_
      rintro e W5 ⟨rfl, hb⟩
      dsimp only
      rw [HB.out]
      have Hb := Lib.hid hb
      (try clear z1 z2 cz n0 n1 n2 n3 n4 n5 n6 n7 n8 n9 n10 n11)
      replace HE := Lib.hid (HE.out.keep hb)
      clear hb
      obtain ⟨z1, z2, cz, n0, n1, n2, n3, n4, n5, n6, n7, n8, n9, n10, n11⟩ := HE.out.cells
      dsimp only at n0 n1 n2 n3 n4 n5 n6 n7 n8 n9 n10 n11
      go_wp2_with fail
      refine And.intro Hb.out ?_
      clear Hb
      iterate 14 (first | (refine cl_do rfl rfl rfl rfl (fun _ _ => ?_); go_wp2_with fail) | (refine cl_yes rfl rfl rfl rfl rfl (fun _ _ => ?_); go_wp2_with fail) | (refine cl_no rfl rfl rfl ?_; go_simp) | (refine cl_skip rfl rfl ?_; go_simp))
      refine cl_nil ?_
      go_wp2_with fail
      go_ret
      exact ⟨rfl, HE.out.below⟩
    · have q4 : (e1 != 0) = true := by simp [h4]
      have hnow : instB now = false := by
        cases hi : instB now
        · rfl
        · exfalso
          obtain ⟨-, hv, -⟩ := span_zero (l := [(0, o)]) (kind := kind) (fr := fr) (un := un) (wi := 0) (by rw [HS.out, h3])
          have := HL.out
          unfold localF at this
          rw [hv, hi] at this
          simp at this
          exact h4 this.2.2.symm
      have HA := Lib.hid (applies_no (signed := signed) HS.out (.inr (.inr (.inl hnow))))
      clear h3 h4 hnow
      go_wp2_with fail
      go_at_call 13
      refine (Applies_c ⟨id, auth, kind, target, op, name, cmp, num, ka, kn, kc, fr, un, 0⟩ _ 1 1 [(0, o)] signed now W4 HE.out.sh).mono ?_
      rintro e W5 ⟨rfl, hb⟩
      dsimp only
      rw [HA.out]
      (try clear z1 z2 cz n0 n1 n2 n3 n4 n5 n6 n7 n8 n9 n10 n11)
      replace HE := Lib.hid (HE.out.keep hb)
      clear hb
      obtain ⟨z1, z2, cz, n0, n1, n2, n3, n4, n5, n6, n7, n8, n9, n10, n11⟩ := HE.out.cells
      dsimp only at n0 n1 n2 n3 n4 n5 n6 n7 n8 n9 n10 n11
      go_wp2_with fail
      go_ret
      exact ⟨rfl, HE.out.below⟩
  · have q3 : (S3 != 0) = true := by simp [h3]
    have HA := Lib.hid (applies_no (signed := signed) (now := now) HS.out (.inl h3))
    clear h3
    go_wp2_with fail
    go_at_call 13
    refine (Applies_c ⟨id, auth, kind, target, op, name, cmp, num, ka, kn, kc, fr, un, 0⟩ _ 1 1 [(0, o)] signed now W4 HE.out.sh).mono ?_
    rintro e W5 ⟨rfl, hb⟩
    dsimp only
    rw [HA.out]
    (try clear z1 z2 cz n0 n1 n2 n3 n4 n5 n6 n7 n8 n9 n10 n11)
    replace HE := Lib.hid (HE.out.keep hb)
    clear hb
    obtain ⟨z1, z2, cz, n0, n1, n2, n3, n4, n5, n6, n7, n8, n9, n10, n11⟩ := HE.out.cells
    dsimp only at n0 n1 n2 n3 n4 n5 n6 n7 n8 n9 n10 n11
    go_wp2_with fail
    go_ret
    exact ⟨rfl, HE.out.below⟩
theorem WindowPlain_walk (w : World) (m : Ms) (o : Int) (wo : (Lit.int .i64 o).wf = true) (signed : Int) (ws : (Lit.int .i64 signed).wf = true) (now : Int) (wn : (Lit.int .i64 now).wf = true) :
    Calls Tryd.prog 9 #[.agg m.v, .int .i64 o, .int .i64 signed, .int .i64 now] w fun e w' => e = .returned (.bool true) ∧ Below w.heap.size w w' := WindowPlain_walk0 w m o signed now
end Go.Proofs.YtkcbdlnoobjmbaaDoor
