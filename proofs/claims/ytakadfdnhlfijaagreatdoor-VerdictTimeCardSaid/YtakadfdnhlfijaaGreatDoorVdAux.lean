/-
  What the laws ask of verdicts and lists of texts.
-/
import Derived.Test.YtakadfdnhlfijaaGreatDoorVdDecide
namespace Go.Proofs.YtakadfdnhlfijaaGreatDoor
open Go.RowKit Go.Cz Go.Cz.Lx Go.Cz.Fo Go.Cz.Vd
open Go.WideMaps (keyOf_string_mk)
open Go.Cz.Ck (Shift validB)
open Go.Cz.Wn (Ms datedB appliesF)
set_option linter.unusedSimpArgs false
set_option linter.unusedVariables false
attribute [local go_sem] bs_size bs_extract bs_append bs_toList
attribute [local irreducible] cList cPlan
def sameV (a b : Ve) : Bool := decide (a.kind = b.kind) && (decide (a.forbids = b.forbids) && decide (a.blocks = b.blocks))
theorem sameV_iff {a b : Ve} : sameV a b = true ↔ a = b := by
  obtain ⟨a1, a2, a3⟩ := a
  obtain ⟨b1, b2, b3⟩ := b
  simp [sameV]
/-- Texts of a moderate size. -/
structure TxLen (a : List Bytes) : Prop where
  len : a.length ≤ 1000000
  each : ∀ x ∈ a, x.length ≤ 140737488355328
set_option maxHeartbeats 2000000 in
/-- Two verdicts are equal. -/
theorem same_c (a b : Ve) (fa ba fb bb : Value) (w : World) (h1 : IsTxR w a.forbids fa) (h2 : IsTxR w a.blocks ba) (h3 : IsTxR w b.forbids fb) (h4 : IsTxR w b.blocks bb) (l1 : TxLen a.forbids) (l2 : TxLen a.blocks) (l3 : TxLen b.forbids) (l4 : TxLen b.blocks) :
    Calls Tryz.prog 17 #[.agg #[.int .i64 a.kind, fa, ba], .agg #[.int .i64 b.kind, fb, bb]] w fun e w' => e = .returned (.bool (sameV a b)) ∧ Below w.heap.size w w' := by
  have HT1 := Lib.hid fun (W : World) (hb : Below w.heap.size w W) => texts_c a.forbids b.forbids fa fb W (h1.later hb) (h3.later hb) (by have := l1.len; omega) (by have := l3.len; omega) l1.each l3.each
  have HT2 := Lib.hid fun (W : World) (hb : Below w.heap.size w W) => texts_c a.blocks b.blocks ba bb W (h2.later hb) (h4.later hb) (by have := l2.len; omega) (by have := l4.len; omega) l2.each l4.each
  obtain ⟨y1, c1, rfl⟩ := h1.form
  obtain ⟨y2, c2, rfl⟩ := h2.form
  obtain ⟨y3, c3, rfl⟩ := h3.form
  obtain ⟨y4, c4, rfl⟩ := h4.form
  clear h1 h2 h3 h4 l1 l2 l3 l4
  obtain ⟨a1, a2, a3⟩ := a
  obtain ⟨b1, b2, b3⟩ := b
  dsimp only at HT1 HT2 ⊢
  obtain ⟨n1, hn1⟩ : ∃ n, n = a2.length := ⟨_, rfl⟩
  obtain ⟨n2, hn2⟩ : ∃ n, n = a3.length := ⟨_, rfl⟩
  obtain ⟨n3, hn3⟩ : ∃ n, n = b2.length := ⟨_, rfl⟩
  obtain ⟨n4, hn4⟩ : ∃ n, n = b3.length := ⟨_, rfl⟩
  rw [← hn1, ← hn3] at HT1
  rw [← hn2, ← hn4] at HT2
  rw [← hn1, ← hn2, ← hn3, ← hn4]
  clear hn1 hn2 hn3 hn4
  obtain ⟨W1, hW1⟩ : ∃ W1, W1 = (w.alloc (vobj a1 (.slice y1 n1 c1) (.slice y2 n2 c2))).alloc (vobj b1 (.slice y3 n3 c3) (.slice y4 n4 c4)) := ⟨_, rfl⟩
  obtain ⟨bp, hbp⟩ : ∃ b, b = w.heap.size := ⟨_, rfl⟩
  obtain ⟨bq, hbq⟩ : ∃ b, b = bp + 1 := ⟨_, rfl⟩
  have HO : Hid (Owns w W1 [blk bq (vobj b1 (.slice y3 n3 c3) (.slice y4 n4 c4)), blk bp (vobj a1 (.slice y1 n1 c1) (.slice y2 n2 c2))]) := by
    rw [hW1, hbq, hbp]
    have := ((Owns.start w).box (vobj a1 (.slice y1 n1 c1) (.slice y2 n2 c2))).box (vobj b1 (.slice y3 n3 c3) (.slice y4 n4 c4))
    rw [World.size_alloc] at this
    exact Lib.hid this
  by_cases hk : a1 = b1
  rotate_left
  · have h1 : (a1 == b1) = false := by simpa using hk
    have HE : Hid (sameV ⟨a1, a2, a3⟩ ⟨b1, b2, b3⟩ = false) := by show _ = _; unfold sameV; rw [decide_eq_false hk]; rfl
    clear hk
    go_enter Tryz.func17, Tryz.ntmps17
    go_wp2_with fail
    rw [← hW1]
    go_ret
    exact ⟨by rw [HE.out]; rfl, HO.out.base⟩
  have h1 : (a1 == b1) = true := by simpa using hk
  have HK := Lib.hid hk
  clear hk
  go_enter Tryz.func17, Tryz.ntmps17
  go_wp2_with fail
  rw [← hW1, ← hbp, ← hbq]
  clear hW1 hbp hbq h1
  go_at_call 21
  refine (HT1.out W1 HO.out.base).mono ?_
  rintro e W2 ⟨rfl, hb⟩
  replace HO := Lib.hid (HO.out.below hb)
  clear hb HT1
  obtain ⟨q, hq⟩ : ∃ q, q = decide (a2 = b2) := ⟨_, rfl⟩
  rw [← hq]
  have HQ := Lib.hid hq
  clear hq
  cases q
  · have HE : Hid (sameV ⟨a1, a2, a3⟩ ⟨b1, b2, b3⟩ = false) := by show _ = _; unfold sameV; rw [← HQ.out]; simp
    go_wp2_with fail
    go_ret
    exact ⟨by rw [HE.out]; rfl, HO.out.base⟩
  obtain ⟨bk, -⟩ := Owns.blk HO.out.pop
  have hbp := lt_of_block bk
  have ep0 := cell_of_heap bk (i := 0)
  have ep1 := cell_of_heap bk (i := 1)
  have ep2 := cell_of_heap bk (i := 2)
  simp only [List.getElem?_toArray, List.getElem?_cons_succ, List.getElem?_cons_zero] at ep0 ep1 ep2
  clear bk
  obtain ⟨bk, -⟩ := Owns.blk HO.out
  have hbq := lt_of_block bk
  have eq0 := cell_of_heap bk (i := 0)
  have eq1 := cell_of_heap bk (i := 1)
  have eq2 := cell_of_heap bk (i := 2)
  simp only [List.getElem?_toArray, List.getElem?_cons_succ, List.getElem?_cons_zero] at eq0 eq1 eq2
  clear bk
  go_wp2_with fail
  clear hbp ep0 ep1 ep2 hbq eq0 eq1 eq2
  go_at_call 21
  refine (HT2.out W2 HO.out.base).mono ?_
  rintro e W3 ⟨rfl, hb⟩
  replace HO := Lib.hid (HO.out.below hb)
  clear hb HT2
  have HE : Hid (sameV ⟨a1, a2, a3⟩ ⟨b1, b2, b3⟩ = decide (a3 = b3)) := by show _ = _; unfold sameV; dsimp only; rw [← HQ.out, decide_eq_true HK.out]; simp
  obtain ⟨q, hq⟩ : ∃ q, q = decide (a3 = b3) := ⟨_, rfl⟩
  rw [← hq] at HE ⊢
  clear hq HQ HK
  go_wp2_with fail
  go_ret
  exact ⟨by rw [HE.out]; rfl, HO.out.base⟩
set_option maxHeartbeats 2000000 in
/-- A list of texts has a text. -/
theorem has_c (l : List Bytes) (s : Bytes) (v : Value) (w : World) (hv : IsTxR w l v) (h9 : l.length ≤ 9223372036854775806) :
    Calls Tryz.prog 19 #[v, .string (bs s)] w fun e w' => e = .returned (.bool (l.contains s)) ∧ w' = w := by
  have HA := Lib.hid hv
  obtain ⟨ya, ca, rfl⟩ := hv.form
  obtain ⟨n, hn⟩ : ∃ n, n = l.length := ⟨_, rfl⟩
  have HN := Lib.hid hn
  rw [← hn] at HA h9 ⊢
  clear hv hn
  go_enter Tryz.func19, Tryz.ntmps19
  go_wp2_with fail
  have HT : Hid ((l.take 0).contains s = false) := Lib.hid rfl
  go_loopg [5] n (fun gk i wr => ∃ k : Nat, gk = n - k ∧ k ≤ n ∧ wr = w ∧ i = .int .i64 (k : Int) ∧ Hid ((l.take k).contains s = false))
  case atStart => exact ⟨0, rfl, Nat.zero_le _, rfl, rfl, HT⟩
  case round =>
    rename_i J1 K1 hJ1 hK1
    clear HT
    obtain ⟨k, rfl, hk, rfl, rfl, HT⟩ := hrel
    by_cases hlt : k < n
    · obtain ⟨x, hx⟩ : ∃ x, l[k]? = some x := ⟨_, List.getElem?_eq_getElem (by rw [← HN.out]; exact hlt)⟩
      obtain ⟨g, off, rfl, hg, cx⟩ := HA.out.get (Below.refl _ _) hx
      have HX := Lib.hid hx
      clear hx
      by_cases hxz : x = s
      · have h2 : (x == s) = true := by simpa using hxz
        have HE : Hid (l.contains s = true) := by
          show _ = _
          rw [List.contains_iff_mem, ← hxz]
          exact List.mem_of_getElem? HX.out
        clear hxz hJ1 hK1
        go_wp2_with fail
        go_ret
        exact ⟨by rw [HE.out]; rfl, rfl⟩
      have h2 : (x == s) = false := by simpa using hxz
      have HT2 : Hid ((l.take (k + 1)).contains s = false) := by
        show _ = _
        rw [List.take_add_one, HX.out]
        have h1 := HT.out
        simp only [List.contains_eq_mem, decide_eq_false_iff_not] at h1 ⊢
        simp only [Option.toList_some, List.mem_append, List.mem_singleton, not_or]
        exact ⟨h1, fun e => hxz e.symm⟩
      clear hxz
      go_wp2_with fail
      clear h2 hg cx HX
      go_roundg (n - (k + 1))
      case measure => omega
      case rel => exact ⟨k + 1, rfl, by omega, rfl, by go_num, HT2⟩
    · obtain rfl : k = n := by omega
      have HE : Hid (l.contains s = false) := by
        show _ = _
        have := HT.out
        rw [HN.out, List.take_length] at this
        exact this
      clear hJ1 hK1 hlt
      go_wp2_with fail
      go_ret
      exact ⟨by rw [HE.out]; rfl, rfl⟩
set_option maxRecDepth 100000 in
set_option maxHeartbeats 2000000 in
/-- A list of texts in reverse order. -/
theorem back_c (l : List Bytes) (v : Value) (w : World) (hv : IsTxR w l v) (h9 : l.length ≤ 1000000) :
    Calls Tryz.prog 20 #[v] w fun e w' => ∃ v', e = .returned v' ∧ Owns w w' [txP v' l.reverse] := by
  have HA := Lib.hid hv
  obtain ⟨ya, ca, rfl⟩ := hv.form
  obtain ⟨n, hn⟩ : ∃ n, n = l.length := ⟨_, rfl⟩
  have HN := Lib.hid hn
  rw [← hn] at HA h9 ⊢
  clear hv hn
  go_enter Tryz.func20, Tryz.ntmps20
  go_wp2_with fail
  have HT : Hid (Owns w w [txP (.slice none 0 0) (l.drop n).reverse]) := by
    rw [HN.out, List.drop_length]
    exact Lib.hid (Owns.start w).txNew
  go_loopg [3, 4] n (fun gk v i wr => ∃ k : Nat, k = gk ∧ k ≤ n ∧ i = .int .i64 ((k : Int) - 1) ∧ Hid (Owns w wr [txP v (l.drop k).reverse]))
  case atStart => exact ⟨n, rfl, Nat.le_refl _, by go_num, HT⟩
  case round =>
    rename_i J1 K1 hJ1 hK1
    clear HT
    obtain ⟨k, rfl, hk, rfl, HO⟩ := hrel
    rcases k with _ | k
    · have HE : Hid ((l.drop 0).reverse = l.reverse) := Lib.hid rfl
      rw [HE.out] at HO
      clear hJ1 hK1
      go_wp2_with fail
      go_ret
      exact ⟨_, rfl, HO.out⟩
    · obtain ⟨x, hx⟩ : ∃ x, l[k]? = some x := ⟨_, List.getElem?_eq_getElem (by rw [← HN.out]; omega)⟩
      obtain ⟨g, off, rfl, hg, cx⟩ := HA.out.get HO.out.base hx
      have HX := Lib.hid hx
      clear hx
      have hk1 : ((k + 1 : Nat) : Int) - 1 = (k : Int) := by omega
      rw [hk1]
      obtain ⟨sa, sn, sc, rfl⟩ : ∃ a n c, u3 = .slice a n c := by obtain ⟨y, c, e, -⟩ := HO.out.txIs; exact ⟨y, _, c, e⟩
      have HW := Lib.hid (HO.out.alloc (.cells #[.string (bs x)] 9))
      have e1 : Hid ((l.drop k).reverse = (l.drop (k + 1)).reverse ++ [x]) := by
        show _ = _
        obtain ⟨h1, rfl⟩ := List.getElem?_eq_some_iff.1 HX.out
        rw [List.drop_eq_getElem_cons h1, List.reverse_cons]
      obtain ⟨D, hD⟩ : ∃ D, D = (l.drop (k + 1)).reverse := ⟨_, rfl⟩
      have hDl : D.length ≤ 1000000 := by rw [hD, List.length_reverse, List.length_drop, ← HN.out]; omega
      rw [← hD] at HW HO e1
      clear hD
      go_wp2_with (refine wpList_plain rfl fun K hK => wp_append (.tmp 12) (.tmp 17) 26 (by rfl) 9 _ 1 16 Tryz.underlying26 info_txt (by rfl) (by omega) _ D.length _ (by rfl) (Owns.txRow HW.out) wr.heap.size 1 1 [.string (bs x)] (by rfl) (by rfl) 9 (by exact new_heap wr _ _ rfl) (by simp [Value.oneCell']) (by omega) (by omega) ?_; intro v' w2 hrow hgrow hblk; have ho14 := (Owns.txGrew (l' := D ++ [x]) HW.out (by simpa [txs] using hrow) hgrow hblk); have HO14 := Lib.hid ho14; clear ho14 hrow hgrow hblk)
      clear HW HO hg cx HX hk1
      go_roundg k
      case measure => omega
      case rel => exact ⟨k, rfl, by omega, by go_num, by rw [e1.out]; exact HO14⟩
end Go.Proofs.YtakadfdnhlfijaaGreatDoor
