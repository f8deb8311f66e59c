/-
  What the laws ask of verdicts and lists of texts.
  Sizes; what counts; what is small.
  What the laws' 'few' says.
  The examples of the chapter, in plain Lean; measures and scenes that are written out in memory.
  'head' returns true.
  What a law of the verdicts is handed, and what 'few' says of it.
-/
import Derived.Test.YtakadfdnhlfijaaGreatDoorVdDecide
namespace Go.Proofs.YtakadfdnhlfijaaGreatDoor
open Go.RowKit Go.Cz Go.Cz.Lx Go.Cz.Fo Go.Cz.Vd
open Go.WideMaps (keyOf_string_mk)
open Go.Cz.Ck (Shift validB)
open Go.Cz.Wn (Ms datedB appliesF)
set_option linter.unusedSimpArgs false
set_option linter.unusedVariables false
attribute [local go_sem] bs_size bs_extract bs_append bs_toList
attribute [local irreducible] cList cPlan
def sameV (a b : Ve) : Bool := decide (a.kind = b.kind) && (decide (a.forbids = b.forbids) && decide (a.blocks = b.blocks))
theorem sameV_iff {a b : Ve} : sameV a b = true ↔ a = b := by
  obtain ⟨a1, a2, a3⟩ := a
  obtain ⟨b1, b2, b3⟩ := b
  simp [sameV]
/-- Texts of a moderate size. -/
structure TxLen (a : List Bytes) : Prop where
  len : a.length ≤ 1000000
  each : ∀ x ∈ a, x.length ≤ 140737488355328
set_option maxHeartbeats 2000000 in
/-- Two verdicts are equal. -/
theorem same_c (a b : Ve) (fa ba fb bb : Value) (w : World) (h1 : IsTxR w a.forbids fa) (h2 : IsTxR w a.blocks ba) (h3 : IsTxR w b.forbids fb) (h4 : IsTxR w b.blocks bb) (l1 : TxLen a.forbids) (l2 : TxLen a.blocks) (l3 : TxLen b.forbids) (l4 : TxLen b.blocks) :
    Calls Tryz.prog 17 #[.agg #[.int .i64 a.kind, fa, ba], .agg #[.int .i64 b.kind, fb, bb]] w fun e w' => e = .returned (.bool (sameV a b)) ∧ Below w.heap.size w w' := by
  have HT1 := Lib.hid fun (W : World) (hb : Below w.heap.size w W) => texts_c a.forbids b.forbids fa fb W (h1.later hb) (h3.later hb) (by have := l1.len; omega) (by have := l3.len; omega) l1.each l3.each
  have HT2 := Lib.hid fun (W : World) (hb : Below w.heap.size w W) => texts_c a.blocks b.blocks ba bb W (h2.later hb) (h4.later hb) (by have := l2.len; omega) (by have := l4.len; omega) l2.each l4.each
  obtain ⟨y1, c1, rfl⟩ := h1.form
  obtain ⟨y2, c2, rfl⟩ := h2.form
  obtain ⟨y3, c3, rfl⟩ := h3.form
  obtain ⟨y4, c4, rfl⟩ := h4.form
  clear h1 h2 h3 h4 l1 l2 l3 l4
  obtain ⟨a1, a2, a3⟩ := a
  obtain ⟨b1, b2, b3⟩ := b
  dsimp only at HT1 HT2 ⊢
  obtain ⟨n1, hn1⟩ : ∃ n, n = a2.length := ⟨_, rfl⟩
  obtain ⟨n2, hn2⟩ : ∃ n, n = a3.length := ⟨_, rfl⟩
  obtain ⟨n3, hn3⟩ : ∃ n, n = b2.length := ⟨_, rfl⟩
  obtain ⟨n4, hn4⟩ : ∃ n, n = b3.length := ⟨_, rfl⟩
  rw [← hn1, ← hn3] at HT1
  rw [← hn2, ← hn4] at HT2
  rw [← hn1, ← hn2, ← hn3, ← hn4]
  clear hn1 hn2 hn3 hn4
  obtain ⟨W1, hW1⟩ : ∃ W1, W1 = (w.alloc (vobj a1 (.slice y1 n1 c1) (.slice y2 n2 c2))).alloc (vobj b1 (.slice y3 n3 c3) (.slice y4 n4 c4)) := ⟨_, rfl⟩
  obtain ⟨bp, hbp⟩ : ∃ b, b = w.heap.size := ⟨_, rfl⟩
  obtain ⟨bq, hbq⟩ : ∃ b, b = bp + 1 := ⟨_, rfl⟩
  have HO : Hid (Owns w W1 [blk bq (vobj b1 (.slice y3 n3 c3) (.slice y4 n4 c4)), blk bp (vobj a1 (.slice y1 n1 c1) (.slice y2 n2 c2))]) := by
    rw [hW1, hbq, hbp]
    have := ((Owns.start w).box (vobj a1 (.slice y1 n1 c1) (.slice y2 n2 c2))).box (vobj b1 (.slice y3 n3 c3) (.slice y4 n4 c4))
    rw [World.size_alloc] at this
    exact Lib.hid this
  by_cases hk : a1 = b1
  rotate_left
  · have h1 : (a1 == b1) = false := by simpa using hk
    have HE : Hid (sameV ⟨a1, a2, a3⟩ ⟨b1, b2, b3⟩ = false) := by show _ = _; unfold sameV; rw [decide_eq_false hk]; rfl
    clear hk
    go_enter Tryz.func17, Tryz.ntmps17
    go_wp2_with fail
    rw [← hW1]
    go_ret
    exact ⟨by rw [HE.out]; rfl, HO.out.base⟩
  have h1 : (a1 == b1) = true := by simpa using hk
  have HK := Lib.hid hk
  clear hk
  go_enter Tryz.func17, Tryz.ntmps17
  go_wp2_with fail
  rw [← hW1, ← hbp, ← hbq]
  clear hW1 hbp hbq h1
  go_at_call 21
  refine (HT1.out W1 HO.out.base).mono ?_
  rintro e W2 ⟨rfl, hb⟩
  replace HO := Lib.hid (HO.out.below hb)
  clear hb HT1
  obtain ⟨q, hq⟩ : ∃ q, q = decide (a2 = b2) := ⟨_, rfl⟩
  rw [← hq]
  have HQ := Lib.hid hq
  clear hq
  cases q
  · have HE : Hid (sameV ⟨a1, a2, a3⟩ ⟨b1, b2, b3⟩ = false) := by show _ = _; unfold sameV; rw [← HQ.out]; simp
    go_wp2_with fail
    go_ret
    exact ⟨by rw [HE.out]; rfl, HO.out.base⟩
  obtain ⟨bk, -⟩ := Owns.blk HO.out.pop
  have hbp := lt_of_block bk
  have ep0 := cell_of_heap bk (i := 0)
  have ep1 := cell_of_heap bk (i := 1)
  have ep2 := cell_of_heap bk (i := 2)
  simp only [List.getElem?_toArray, List.getElem?_cons_succ, List.getElem?_cons_zero] at ep0 ep1 ep2
  clear bk
  obtain ⟨bk, -⟩ := Owns.blk HO.out
  have hbq := lt_of_block bk
  have eq0 := cell_of_heap bk (i := 0)
  have eq1 := cell_of_heap bk (i := 1)
  have eq2 := cell_of_heap bk (i := 2)
  simp only [List.getElem?_toArray, List.getElem?_cons_succ, List.getElem?_cons_zero] at eq0 eq1 eq2
  clear bk
  go_wp2_with fail
  clear hbp ep0 ep1 ep2 hbq eq0 eq1 eq2
  go_at_call 21
  refine (HT2.out W2 HO.out.base).mono ?_
  rintro e W3 ⟨rfl, hb⟩
  replace HO := Lib.hid (HO.out.below hb)
  clear hb HT2
  have HE : Hid (sameV ⟨a1, a2, a3⟩ ⟨b1, b2, b3⟩ = decide (a3 = b3)) := by show _ = _; unfold sameV; dsimp only; rw [← HQ.out, decide_eq_true HK.out]; simp
  obtain ⟨q, hq⟩ : ∃ q, q = decide (a3 = b3) := ⟨_, rfl⟩
  rw [← hq] at HE ⊢
  clear hq HQ HK
  go_wp2_with fail
  go_ret
  exact ⟨by rw [HE.out]; rfl, HO.out.base⟩
set_option maxHeartbeats 2000000 in
/-- A list of texts has a text. -/
theorem has_c (l : List Bytes) (s : Bytes) (v : Value) (w : World) (hv : IsTxR w l v) (h9 : l.length ≤ 9223372036854775806) :
    Calls Tryz.prog 19 #[v, .string (bs s)] w fun e w' => e = .returned (.bool (l.contains s)) ∧ w' = w := by
  have HA := Lib.hid hv
  obtain ⟨ya, ca, rfl⟩ := hv.form
  obtain ⟨n, hn⟩ : ∃ n, n = l.length := ⟨_, rfl⟩
  have HN := Lib.hid hn
  rw [← hn] at HA h9 ⊢
  clear hv hn
  go_enter Tryz.func19, Tryz.ntmps19
  go_wp2_with fail
  have HT : Hid ((l.take 0).contains s = false) := Lib.hid rfl
  go_loopg [5] n (fun gk i wr => ∃ k : Nat, gk = n - k ∧ k ≤ n ∧ wr = w ∧ i = .int .i64 (k : Int) ∧ Hid ((l.take k).contains s = false))
  case atStart => exact ⟨0, rfl, Nat.zero_le _, rfl, rfl, HT⟩
  case round =>
    rename_i J1 K1 hJ1 hK1
    clear HT
    obtain ⟨k, rfl, hk, rfl, rfl, HT⟩ := hrel
    by_cases hlt : k < n
    · obtain ⟨x, hx⟩ : ∃ x, l[k]? = some x := ⟨_, List.getElem?_eq_getElem (by rw [← HN.out]; exact hlt)⟩
      obtain ⟨g, off, rfl, hg, cx⟩ := HA.out.get (Below.refl _ _) hx
      have HX := Lib.hid hx
      clear hx
      by_cases hxz : x = s
      · have h2 : (x == s) = true := by simpa using hxz
        have HE : Hid (l.contains s = true) := by
          show _ = _
          rw [List.contains_iff_mem, ← hxz]
          exact List.mem_of_getElem? HX.out
        clear hxz hJ1 hK1
        go_wp2_with fail
        go_ret
        exact ⟨by rw [HE.out]; rfl, rfl⟩
      have h2 : (x == s) = false := by simpa using hxz
      have HT2 : Hid ((l.take (k + 1)).contains s = false) := by
        show _ = _
        rw [List.take_add_one, HX.out]
        have h1 := HT.out
        simp only [List.contains_eq_mem, decide_eq_false_iff_not] at h1 ⊢
        simp only [Option.toList_some, List.mem_append, List.mem_singleton, not_or]
        exact ⟨h1, fun e => hxz e.symm⟩
      clear hxz
      go_wp2_with fail
      clear h2 hg cx HX
      go_roundg (n - (k + 1))
      case measure => omega
      case rel => exact ⟨k + 1, rfl, by omega, rfl, by go_num, HT2⟩
    · obtain rfl : k = n := by omega
      have HE : Hid (l.contains s = false) := by
        show _ = _
        have := HT.out
        rw [HN.out, List.take_length] at this
        exact this
      clear hJ1 hK1 hlt
      go_wp2_with fail
      go_ret
      exact ⟨by rw [HE.out]; rfl, rfl⟩
set_option maxRecDepth 100000 in
set_option maxHeartbeats 2000000 in
/-- A list of texts in reverse order. -/
theorem back_c (l : List Bytes) (v : Value) (w : World) (hv : IsTxR w l v) (h9 : l.length ≤ 1000000) :
    Calls Tryz.prog 20 #[v] w fun e w' => ∃ v', e = .returned v' ∧ Owns w w' [txP v' l.reverse] := by
  have HA := Lib.hid hv
  obtain ⟨ya, ca, rfl⟩ := hv.form
  obtain ⟨n, hn⟩ : ∃ n, n = l.length := ⟨_, rfl⟩
  have HN := Lib.hid hn
  rw [← hn] at HA h9 ⊢
  clear hv hn
  go_enter Tryz.func20, Tryz.ntmps20
  go_wp2_with fail
  have HT : Hid (Owns w w [txP (.slice none 0 0) (l.drop n).reverse]) := by
    rw [HN.out, List.drop_length]
    exact Lib.hid (Owns.start w).txNew
  go_loopg [3, 4] n (fun gk v i wr => ∃ k : Nat, k = gk ∧ k ≤ n ∧ i = .int .i64 ((k : Int) - 1) ∧ Hid (Owns w wr [txP v (l.drop k).reverse]))
  case atStart => exact ⟨n, rfl, Nat.le_refl _, by go_num, HT⟩
  case round =>
    rename_i J1 K1 hJ1 hK1
    clear HT
    obtain ⟨k, rfl, hk, rfl, HO⟩ := hrel
    rcases k with _ | k
    · have HE : Hid ((l.drop 0).reverse = l.reverse) := Lib.hid rfl
      rw [HE.out] at HO
      clear hJ1 hK1
      go_wp2_with fail
      go_ret
      exact ⟨_, rfl, HO.out⟩
    · obtain ⟨x, hx⟩ : ∃ x, l[k]? = some x := ⟨_, List.getElem?_eq_getElem (by rw [← HN.out]; omega)⟩
      obtain ⟨g, off, rfl, hg, cx⟩ := HA.out.get HO.out.base hx
      have HX := Lib.hid hx
      clear hx
      have hk1 : ((k + 1 : Nat) : Int) - 1 = (k : Int) := by omega
      rw [hk1]
      obtain ⟨sa, sn, sc, rfl⟩ : ∃ a n c, u3 = .slice a n c := by obtain ⟨y, c, e, -⟩ := HO.out.txIs; exact ⟨y, _, c, e⟩
      have HW := Lib.hid (HO.out.alloc (.cells #[.string (bs x)] 9))
      have e1 : Hid ((l.drop k).reverse = (l.drop (k + 1)).reverse ++ [x]) := by
        show _ = _
        obtain ⟨h1, rfl⟩ := List.getElem?_eq_some_iff.1 HX.out
        rw [List.drop_eq_getElem_cons h1, List.reverse_cons]
      obtain ⟨D, hD⟩ : ∃ D, D = (l.drop (k + 1)).reverse := ⟨_, rfl⟩
      have hDl : D.length ≤ 1000000 := by rw [hD, List.length_reverse, List.length_drop, ← HN.out]; omega
      rw [← hD] at HW HO e1
      clear hD
      go_wp2_with (refine wpList_plain rfl fun K hK => wp_append (.tmp 12) (.tmp 17) 26 (by rfl) 9 _ 1 16 Tryz.underlying26 info_txt (by rfl) (by omega) _ D.length _ (by rfl) (Owns.txRow HW.out) wr.heap.size 1 1 [.string (bs x)] (by rfl) (by rfl) 9 (by exact new_heap wr _ _ rfl) (by simp [Value.oneCell']) (by omega) (by omega) ?_; intro v' w2 hrow hgrow hblk; have ho14 := (Owns.txGrew (l' := D ++ [x]) HW.out (by simpa [txs] using hrow) hgrow hblk); have HO14 := Lib.hid ho14; clear ho14 hrow hgrow hblk)
      clear HW HO hg cx HX hk1
      go_roundg k
      case measure => omega
      case rel => exact ⟨k, rfl, by omega, by go_num, by rw [e1.out]; exact HO14⟩
end Go.Proofs.YtakadfdnhlfijaaGreatDoor
namespace Go.Cz.Vd
open Go.Cz.Lx Go.Cz.Fo
open Go.Cz.Ck (Shift validB)
/-- A measure is of a moderate size. -/
def meFewB (m : Me) : Bool := decide (m.id.length ≤ 60) && (decide (m.auth.length ≤ 60) && (decide (m.target.length ≤ 60) && decide (size m.cond ≤ 60)))
def idxI (a : Bytes) (l : List Bytes) : Int := match idxA a l with | some i => (i : Int) | none => -1
def meFew (n : Nat) (l : List Me) : Bool := decide (l.length ≤ n) && l.all meFewB
def scFew (s : Sc) : Bool := decide (s.dom.length ≤ 20) && (decide (s.auths.length ≤ 8) && (decide (s.zones.length ≤ 8) && (decide (s.cases.length ≤ 8) && (s.zones.all (fun z => decide (z.length ≤ 20)) && s.cases.all (fun c => decide (c.length ≤ 30))))))
def fewV (l : List Me) (s : Sc) : Bool := meFew 8 l && scFew s
theorem fewV_parts {l : List Me} {s : Sc} (h : fewV l s = true) : (l.length ≤ 8 ∧ ∀ m ∈ l, m.id.length ≤ 60 ∧ m.auth.length ≤ 60 ∧ m.target.length ≤ 60 ∧ size m.cond ≤ 60) ∧ s.dom.length ≤ 20 ∧ s.auths.length ≤ 8 ∧ s.zones.length ≤ 8 ∧ s.cases.length ≤ 8 ∧ ∀ c ∈ s.cases, c.length ≤ 30 := by
  unfold fewV meFew scFew at h
  simp only [Bool.and_eq_true, decide_eq_true_eq, List.all_eq_true] at h
  refine ⟨⟨h.1.1, fun m hm => ?_⟩, h.2.1, h.2.2.1, h.2.2.2.1, h.2.2.2.2.1, h.2.2.2.2.2.2⟩
  have := h.1.2 m hm
  unfold meFewB at this
  simpa only [Bool.and_eq_true, decide_eq_true_eq] using this
end Go.Cz.Vd
namespace Go.Proofs.YtakadfdnhlfijaaGreatDoor
open Go.RowKit Go.Cz Go.Cz.Lx Go.Cz.Fo Go.Cz.Vd
open Go.Cz.Ck (Shift validB)
open Go.Cz.Wn (Ms datedB appliesF)
set_option linter.unusedSimpArgs false
set_option linter.unusedVariables false
attribute [local go_sem] bs_size bs_extract bs_append bs_toList
attribute [local irreducible] cList cPlan
section
variable {p : Nat → Prop}
set_option maxHeartbeats 2000000 in
theorem count26_c (f : Fm) : ∀ (w : World) (kv : Value) (t : Nat), IsFm p w f kv → t ≤ 100000 →
    Calls Tryz.prog 76 #[fval f kv, .int .i64 (t : Int)] w (fun e w' => e = .returned (.int .i64 (min (size f) (t + 1) : Nat)) ∧ Below w.heap.size w w') := by
  refine Fm.induct (P := fun f => ∀ (w : World) (kv : Value) (t : Nat), IsFm p w f kv → t ≤ 100000 →
    Calls Tryz.prog 76 #[fval f kv, .int .i64 (t : Int)] w (fun e w' => e = .returned (.int .i64 (min (size f) (t + 1) : Nat)) ∧ Below w.heap.size w w')) ?_ f
  clear f
  intro f ih w kv t hf ht
  have HI := Lib.hid ih
  obtain ⟨y, m, rfl⟩ := hf.form
  obtain ⟨N, hN⟩ : ∃ N, N = f.kids.length := ⟨_, rfl⟩
  have HN := Lib.hid hN
  rw [← hN] at hf ⊢
  have HF := Lib.hid hf
  clear hN hf
  obtain ⟨W1, hW1⟩ : ∃ W1, W1 = w.alloc (fobj f (.slice y N m)) := ⟨_, rfl⟩
  obtain ⟨bf, hbf⟩ : ∃ bf, bf = w.heap.size := ⟨_, rfl⟩
  have HO : Hid (Owns w W1 [blk bf (fobj f (.slice y N m))]) := by
    rw [hW1, hbf]
    exact Lib.hid ((Owns.start w).box _)
  go_enter Tryz.func76, Tryz.ntmps76
  go_wp2_with fail
  rw [← hW1, ← hbf]
  clear hW1 hbf
  clear ih
  have h0 : min (1 + sizes (f.kids.take 0)) (t + 1) = 1 := by simp [sizes]
  have H0 := Lib.hid h0
  clear h0
  go_loopg [5, 6] N (fun gk a i wr => ∃ k c : Nat, gk = N - k ∧ k ≤ N ∧ i = .int .i64 (k : Int) ∧ a = .int .i64 (c : Int) ∧ c ≤ t + 1 ∧ Hid (min (1 + sizes (f.kids.take k)) (t + 1) = c) ∧ Hid (Owns w wr [blk bf (fobj f (.slice y N m))]))
  case atStart => exact ⟨0, 1, rfl, Nat.zero_le _, rfl, rfl, by omega, H0, HO⟩
  case round =>
    rename_i J1 K1 hJ1 hK1
    clear HO H0
    obtain ⟨k, c, rfl, hk, rfl, rfl, hc, HC, HO⟩ := hrel
    obtain ⟨bk, -⟩ := HO.out.blk
    have hbf := lt_of_block bk
    have cb4 := cell_of_heap bk (i := 4)
    simp only [List.getElem?_toArray, List.getElem?_cons_succ, List.getElem?_cons_zero] at cb4
    by_cases hlt : k < N
    · by_cases hct : c ≤ t
      · have hct' : (c : Int) ≤ (t : Int) := by omega
        obtain ⟨q, hq⟩ : ∃ q, f.kids[k]? = some q := ⟨_, List.getElem?_eq_getElem (by rw [← HN.out]; exact hlt)⟩
        obtain ⟨g, off, kv, rfl, hg, hkv, c0, c1, c2, c3, c4⟩ := HF.out.old HO.out.base hq
        obtain ⟨y2, m2, rfl⟩ := hkv.form
        have HQ := Lib.hid hq
        have HK := Lib.hid hkv
        clear hq hkv
        obtain ⟨N2, hN2⟩ : ∃ N2, N2 = q.kids.length := ⟨_, rfl⟩
        rw [← hN2] at c4 HK
        clear hN2
        have HLt := Lib.hid hlt
        obtain ⟨r, hr⟩ : ∃ r, r = t - c := ⟨_, rfl⟩
        have er : (t : Int) - (c : Int) = (r : Int) := by omega
        have HR := Lib.hid hr
        clear hr
        have hk9 : k ≤ 100000 := by have := length_sizes (f.kids.take k); rw [List.length_take] at this; have := HC.out; have := HN.out; omega
        go_wp2_with fail
        refine (HI.out q (List.mem_of_getElem? HQ.out) wr _ r (HK.out.later HO.out.base) (by omega)).mono ?_
        rintro e W2 ⟨rfl, hb⟩
        have HO2 := Lib.hid (HO.out.below hb)
        obtain ⟨x, hx⟩ : ∃ x, x = min (size q) (r + 1) := ⟨_, rfl⟩
        rw [← hx]
        have HX := Lib.hid hx
        obtain ⟨c', hc'⟩ : ∃ c', c' = c + x := ⟨_, rfl⟩
        have ec : (c : Int) + (x : Int) = (c' : Int) := by omega
        have hc9 : c' ≤ t + 1 := by have := HR.out; omega
        have HC2 : Hid (min (1 + sizes (f.kids.take (k + 1))) (t + 1) = c') := by
          show _ = _
          rw [sizes_take HQ.out]
          have := HC.out
          have := HR.out
          omega
        clear hx hc' hb HO HC c0 c1 c2 c3 c4 bk cb4 hbf
        go_wp2_with fail
        go_roundg (N - (k + 1))
        case measure => omega
        case rel => exact ⟨k + 1, c', rfl, by omega, by go_num, rfl, hc9, HC2, HO2⟩
      · have hct' : ¬ (c : Int) ≤ (t : Int) := by omega
        have HE : Hid (min (size f) (t + 1) = c) := by
          show _ = _
          rw [size_kids]
          have := HC.out
          have := sizes_le f.kids k
          omega
        clear hJ1 hK1 hct
        go_wp2_with fail
        go_ret
        exact ⟨by rw [HE.out]; rfl, HO.out.base⟩
    · obtain rfl : k = N := by omega
      have HE : Hid (min (size f) (t + 1) = c) := by
        show _ = _
        rw [size_kids]
        have h1 := HC.out
        rw [HN.out, List.take_length] at h1
        omega
      clear hJ1 hK1 hlt
      go_wp2_with fail
      go_ret
      exact ⟨by rw [HE.out]; rfl, HO.out.base⟩
theorem Small26_c (f : Fm) (w : World) (kv : Value) (t : Nat) (hf : IsFm p w f kv) (ht : t ≤ 100000) : Calls Tryz.prog 53 #[fval f kv, .int .i64 (t : Int)] w (fun e w' => e = .returned (.bool (decide (size f ≤ t))) ∧ Below w.heap.size w w') := by
  obtain ⟨y, m, rfl⟩ := hf.form
  obtain ⟨N, hN⟩ : ∃ N, N = f.kids.length := ⟨_, rfl⟩
  have HN := Lib.hid hN
  rw [← hN] at hf ⊢
  have HF := Lib.hid hf
  clear hN hf
  obtain ⟨W1, hW1⟩ : ∃ W1, W1 = w.alloc (fobj f (.slice y N m)) := ⟨_, rfl⟩
  obtain ⟨bf, hbf⟩ : ∃ bf, bf = w.heap.size := ⟨_, rfl⟩
  have HO : Hid (Owns w W1 [blk bf (fobj f (.slice y N m))]) := by
    rw [hW1, hbf]
    exact Lib.hid ((Owns.start w).box _)
  go_enter Tryz.func53, Tryz.ntmps53
  go_wp2_with fail
  rw [← hW1]
  clear hW1 hbf
  go_at_call 76
  refine (count26_c f W1 _ t (HF.out.later HO.out.base) ht).mono ?_
  rintro e W2 ⟨rfl, hb⟩
  have HB := Lib.hid (HO.out.base.trans (hb.mono HO.out.base.size))
  obtain ⟨c, hc⟩ : ∃ c, c = min (size f) (t + 1) := ⟨_, rfl⟩
  rw [← hc]
  have HC := Lib.hid hc
  clear hb HO hc
  go_wp2_with fail
  go_ret
  exact ⟨congrArg (fun b => Ending.returned (Value.bool b)) (show decide (c ≤ t) = decide (size f ≤ t) from decide_eq_decide.2 (by have := HC.out; omega)), HB.out⟩
end
set_option maxHeartbeats 2000000 in
/-- Where an authority stands. -/
theorem index_c (s : Sc) (a : Bytes) (vd va vz vc : Value) (w : World) (hs : IsSc w s vd va vz vc) (h9 : s.auths.length ≤ 9223372036854775806) :
    Calls Tryz.prog 46 #[sval s vd va vz vc, .string (bs a)] w fun e w' => e = .returned (.int .i64 (idxI a s.auths)) ∧ Below w.heap.size w w' := by
  obtain ⟨yd, md, rfl⟩ := hs.dom.form
  obtain ⟨ya, ma, rfl⟩ := hs.auths.form
  obtain ⟨yz, mz, rfl⟩ := hs.zones.form
  obtain ⟨yc, mc, rfl⟩ := hs.cases.form
  obtain ⟨ND, hND⟩ : ∃ n, n = s.dom.length := ⟨_, rfl⟩
  obtain ⟨NA, hNA⟩ : ∃ n, n = s.auths.length := ⟨_, rfl⟩
  obtain ⟨NZ, hNZ⟩ : ∃ n, n = s.zones.length := ⟨_, rfl⟩
  obtain ⟨NC, hNC⟩ : ∃ n, n = s.cases.length := ⟨_, rfl⟩
  rw [← hND, ← hNA, ← hNZ, ← hNC] at hs
  have HND := Lib.hid hND
  have HNA := Lib.hid hNA
  have HNZ := Lib.hid hNZ
  have HNC := Lib.hid hNC
  have HS := Lib.hid hs
  clear hs
  rw [← hNA] at h9
  rw [← hND, ← hNA, ← hNZ, ← hNC]
  clear hND hNA hNZ hNC
  obtain ⟨W1, hW1⟩ : ∃ W1, W1 = w.alloc (sobj s (.slice yd ND md) (.slice ya NA ma) (.slice yz NZ mz) (.slice yc NC mc)) := ⟨_, rfl⟩
  obtain ⟨bx, hbx⟩ : ∃ b, b = w.heap.size := ⟨_, rfl⟩
  have HO : Hid (Owns w W1 [blk bx (sobj s (.slice yd ND md) (.slice ya NA ma) (.slice yz NZ mz) (.slice yc NC mc))]) := by
    rw [hW1, hbx]
    exact Lib.hid ((Owns.start w).box _)
  go_enter Tryz.func46, Tryz.ntmps46
  go_wp2_with fail
  rw [← hW1, ← hbx]
  clear hW1 hbx
  have HT : Hid (idxA a (s.auths.take 0) = none) := Lib.hid rfl
  obtain ⟨bk, -⟩ := HO.out.blk
  have hbx := lt_of_block bk
  have x0 := cell_of_heap bk (i := 0)
  have x1 := cell_of_heap bk (i := 1)
  have x2 := cell_of_heap bk (i := 2)
  have x3 := cell_of_heap bk (i := 3)
  have x4 := cell_of_heap bk (i := 4)
  have x5 := cell_of_heap bk (i := 5)
  simp only [List.getElem?_toArray, List.getElem?_cons_succ, List.getElem?_cons_zero] at x0 x1 x2 x3 x4 x5
  clear bk
  go_loopg [5] NA (fun gk i wr => ∃ k : Nat, gk = NA - k ∧ k ≤ NA ∧ wr = W1 ∧ i = .int .i64 (k : Int) ∧ Hid (idxA a (s.auths.take k) = none))
  case atStart => exact ⟨0, rfl, Nat.zero_le _, rfl, rfl, HT⟩
  case round =>
    rename_i J1 K1 hJ1 hK1
    clear HT
    obtain ⟨k, rfl, hk, rfl, rfl, HT⟩ := hrel
    by_cases hlt : k < NA
    · obtain ⟨x, hx⟩ : ∃ x, s.auths[k]? = some x := ⟨_, List.getElem?_eq_getElem (by rw [← HNA.out]; exact hlt)⟩
      obtain ⟨g, off, rfl, hg, cx⟩ := HS.out.auths.get HO.out.base hx
      have HX := Lib.hid hx
      clear hx
      have HN1 : Hid (idxA a (s.auths.take (k + 1)) = if x = a then some k else none) := by
        show _ = _
        have hlen : (s.auths.take k).length = k := by rw [List.length_take, ← HNA.out]; omega
        rw [List.take_add_one, HX.out, idxA_append, HT.out, hlen]
        simp only [Option.toList_some, idxA]
        by_cases h : x = a <;> simp [h]
      by_cases hxz : x = a
      · have h2 : (x == a) = true := by simpa using hxz
        have HE : Hid (idxA a s.auths = some k) := by
          show _ = _
          rw [← List.take_append_drop (k + 1) s.auths, idxA_append, HN1.out, if_pos hxz]
        clear hxz hJ1 hK1
        go_wp2_with fail
        go_ret
        exact ⟨by unfold idxI; rw [HE.out]; rfl, HO.out.base⟩
      have h2 : (x == a) = false := by simpa using hxz
      have HT2 : Hid (idxA a (s.auths.take (k + 1)) = none) := by
        show _ = _
        rw [HN1.out, if_neg hxz]
      clear hxz HN1
      go_wp2_with fail
      clear h2 hg cx HX
      go_roundg (NA - (k + 1))
      case measure => omega
      case rel => exact ⟨k + 1, rfl, by omega, rfl, by go_num, HT2⟩
    · obtain rfl : k = NA := by omega
      have HE : Hid (idxA a s.auths = none) := by
        show _ = _
        have := HT.out
        rw [HNA.out, List.take_length] at this
        exact this
      clear hJ1 hK1 hlt
      go_wp2_with fail
      go_ret
      exact ⟨by unfold idxI; rw [HE.out]; rfl, HO.out.base⟩
set_option maxRecDepth 100000 in
set_option maxHeartbeats 4000000 in
/-- A measure counts. -/
theorem counts_c (m : Me) (kv : Value) (s : Sc) (vd va vz vc : Value) (w : World) (hf : IsFm (fun _ => True) w m.cond kv) (hm : MeLen m) (hc : CoLen m.cond) (hs : IsSc w s vd va vz vc) (hl : ScLen s) (hp : properB s = true) :
    Calls Tryz.prog 18 #[mval m kv, sval s vd va vz vc] w fun e w' => e = .returned (.bool (countsB s m)) ∧ Below w.heap.size w w' := by
  have HP := Lib.hid (proper_parts hp)
  have HL := Lib.hid hl
  have HMC := Lib.hid hc
  have hA6 : s.auths.length ≤ 6 := HP.out.2.2.1
  have HIx := Lib.hid fun (W : World) (hb : Below w.heap.size w W) => index_c s m.auth vd va vz vc W (hs.later hb) (by omega)
  clear hl hp hc hm hA6
  obtain ⟨yd, md, rfl⟩ := hs.dom.form
  obtain ⟨ya, ma, rfl⟩ := hs.auths.form
  obtain ⟨yz, mz, rfl⟩ := hs.zones.form
  obtain ⟨yc, mc, rfl⟩ := hs.cases.form
  obtain ⟨ND, hND⟩ : ∃ n, n = s.dom.length := ⟨_, rfl⟩
  obtain ⟨NA, hNA⟩ : ∃ n, n = s.auths.length := ⟨_, rfl⟩
  obtain ⟨NZ, hNZ⟩ : ∃ n, n = s.zones.length := ⟨_, rfl⟩
  obtain ⟨NC, hNC⟩ : ∃ n, n = s.cases.length := ⟨_, rfl⟩
  rw [← hND, ← hNA, ← hNZ, ← hNC] at hs
  have HND := Lib.hid hND
  have HNA := Lib.hid hNA
  have HNZ := Lib.hid hNZ
  have HNC := Lib.hid hNC
  have HS := Lib.hid hs
  clear hs
  rw [← hND, ← hNA, ← hNZ, ← hNC] at HIx ⊢
  clear hND hNA hNZ hNC
  obtain ⟨y2, m2, rfl⟩ := hf.form
  obtain ⟨n2, hn2⟩ : ∃ n, n = m.cond.kids.length := ⟨_, rfl⟩
  rw [← hn2] at hf ⊢
  have HFm := Lib.hid hf
  clear hf hn2
  obtain ⟨o, ho⟩ : ∃ o, o = sobj s (.slice yd ND md) (.slice ya NA ma) (.slice yz NZ mz) (.slice yc NC mc) := ⟨_, rfl⟩
  obtain ⟨W1, hW1⟩ : ∃ W1, W1 = (w.alloc (mobj m (.slice y2 n2 m2))).alloc (sobj s (.slice yd ND md) (.slice ya NA ma) (.slice yz NZ mz) (.slice yc NC mc)) := ⟨_, rfl⟩
  obtain ⟨b8, hb8⟩ : ∃ b, b = w.heap.size := ⟨_, rfl⟩
  obtain ⟨bx, hbx⟩ : ∃ b, b = b8 + 1 := ⟨_, rfl⟩
  have HO : Hid (Owns w W1 [blk bx (sobj s (.slice yd ND md) (.slice ya NA ma) (.slice yz NZ mz) (.slice yc NC mc)), blk b8 (mobj m (.slice y2 n2 m2))]) := by
    rw [hW1, hbx, hb8]
    have := ((Owns.start w).box (mobj m (.slice y2 n2 m2))).box (sobj s (.slice yd ND md) (.slice ya NA ma) (.slice yz NZ mz) (.slice yc NC mc))
    rw [World.size_alloc] at this
    exact Lib.hid this
  go_enter Tryz.func18, Tryz.ntmps18
  go_wp2_with fail
  rw [← hW1, ← hb8, ← hbx]
  clear hW1 hb8 hbx
  go_at_call 46
  refine (HIx.out W1 HO.out.base).mono ?_
  rintro e W2 ⟨rfl, hb⟩
  replace HO := Lib.hid (HO.out.below hb)
  clear hb HIx
  go_wp2_with fail
  refine wp_region_can [27, 39] (List.range 42) (by decide +kernel) (by decide +kernel) ?_
  replace HO := Lib.hid HO.out.drew
  obtain ⟨W3, hW3⟩ : ∃ W, W = W2.drew := ⟨_, rfl⟩
  rw [← hW3] at HO ⊢
  clear hW3
  cases hi : idxA m.auth s.auths with
  | none =>
    have hidx : idxI m.auth s.auths = -1 := by unfold idxI; rw [hi]
    rw [hidx]
    have HI := Lib.hid hi
    clear hidx hi
    have HE : Hid (countsB s m = false) := by
      show _ = _
      unfold countsB; rw [HI.out]
    iterate 42 (first | (refine cl_do rfl rfl rfl rfl (fun _ _ => ?_); go_wp2_with fail) | (refine cl_yes rfl rfl rfl rfl (by first | rfl | simp [okB, lenV, plainV, Act.eval]) (fun _ _ => ?_); go_wp2_with fail) | (refine cl_no rfl rfl rfl ?_; go_simp))
    refine cl_nil ?_
    go_wp2_with fail
    go_ret
    exact ⟨by rw [HE.out]; rfl, HO.out.base⟩
  | some i0 =>
    have hidx : idxI m.auth s.auths = (i0 : Int) := by unfold idxI; rw [hi]
    rw [hidx]
    have HI := Lib.hid hi
    have hil : i0 < s.auths.length := (List.getElem?_eq_some_iff.1 (idxA_some hi)).1
    clear hidx hi
    obtain ⟨z, hz⟩ : ∃ x, s.zones[i0]? = some x := ⟨_, List.getElem?_eq_getElem (by rw [HP.out.1]; exact hil)⟩
    obtain ⟨cs, hc⟩ : ∃ x, s.cases[i0]? = some x := ⟨_, List.getElem?_eq_getElem (by rw [HP.out.2.1]; exact hil)⟩
    have hiz : i0 < NZ := by rw [HNZ.out, HP.out.1]; exact hil
    have hic : i0 < NC := by rw [HNC.out, HP.out.2.1]; exact hil
    have HZ := Lib.hid hz
    have HC := Lib.hid hc
    have HCn : Hid (cs.length ≤ 1000000) := Lib.hid (HL.out.cases cs (List.mem_of_getElem? hc))
    have HCB : Hid (countsB s m = (appliesF z m.kind m.fr m.un m.wi s.signed s.now && holdsF s.dom cs m.cond)) := by
      show _ = _
      unfold countsB
      rw [HI.out]
      simp [List.getD_eq_getElem?_getD, HZ.out, HC.out]
    clear hz hc hil
    obtain ⟨g2, off2, zx, zc, rfl, hg2, cz, hz⟩ := HS.out.zones.get HO.out.base HZ.out
    obtain ⟨g3, off3, cu, rfl, -, -, -⟩ := HS.out.cases.get HO.out.base HC.out
    obtain ⟨bk, -⟩ := HO.out.blk
    have hbx := lt_of_block bk
    have x0 := cell_of_heap bk (i := 0)
    have x1 := cell_of_heap bk (i := 1)
    have x2 := cell_of_heap bk (i := 2)
    have x3 := cell_of_heap bk (i := 3)
    have x4 := cell_of_heap bk (i := 4)
    have x5 := cell_of_heap bk (i := 5)
    simp only [List.getElem?_toArray, List.getElem?_cons_succ, List.getElem?_cons_zero] at x0 x1 x2 x3 x4 x5
    clear bk
    obtain ⟨bk, -⟩ := HO.out.pop.blk
    have h8 := lt_of_block bk
    have d0 := cell_of_heap bk (i := 0)
    have d1 := cell_of_heap bk (i := 1)
    have d2 := cell_of_heap bk (i := 2)
    have d3 := cell_of_heap bk (i := 3)
    have d4 := cell_of_heap bk (i := 4)
    have d5 := cell_of_heap bk (i := 5)
    have d6 := cell_of_heap bk (i := 6)
    have d7 := cell_of_heap bk (i := 7)
    have d8 := cell_of_heap bk (i := 8)
    have d9 := cell_of_heap bk (i := 9)
    have d10 := cell_of_heap bk (i := 10)
    have d11 := cell_of_heap bk (i := 11)
    simp only [List.getElem?_toArray, List.getElem?_cons_succ, List.getElem?_cons_zero] at d0 d1 d2 d3 d4 d5 d6 d7 d8 d9 d10 d11
    clear bk
    have i0n : (0 : Int) ≤ (i0 : Int) := by omega
    have izn : (i0 : Int) < (NZ : Int) := by omega
    have icn : (i0 : Int) < (NC : Int) := by omega
    iterate 27 (first | (refine cl_do rfl rfl rfl rfl (fun _ _ => ?_); go_wp2_with fail) | (refine cl_yes rfl rfl rfl rfl (by first | rfl | simp [okB, lenV, plainV, Act.eval]) (fun _ _ => ?_); go_wp2_with fail) | (refine cl_no rfl rfl rfl ?_; go_simp))
    clear i0n izn icn hg2 cz
    clear hbx x0 x1 x2 x3 x4 x5
    clear h8 d0 d1 d2 d3 d4 d5 d6 d7 d8 d9 d10 d11
    refine cl_ycall (i := 27) rfl rfl rfl rfl (fun K hK => ?_)
    go_wp2_with fail
    go_at_call 30
    have HAp := Applies_c ⟨bs m.id, bs m.auth, m.kind, bs m.target, m.cond.op, bs m.cond.name, m.cond.cmp, m.cond.num, y2, n2, m2, m.fr, m.un, m.wi⟩ zx z.length zc z s.signed s.now W3 hz
    dsimp only [Ms.v] at HAp
    refine HAp.mono ?_
    clear HAp
    rintro e W4 ⟨rfl, hb⟩
    replace HO := Lib.hid (HO.out.below hb)
    have Hb := Lib.hid hb
    clear hz hb
    dsimp only
    obtain ⟨q, hq⟩ : ∃ q, q = appliesF z m.kind m.fr m.un m.wi s.signed s.now := ⟨_, rfl⟩
    rw [← hq]
    have HQ := Lib.hid hq
    clear hq
    go_wp2_with fail
    refine And.intro Hb.out ?_
    clear Hb
    cases q
    · have HE : Hid (countsB s m = false) := by
        show _ = _
        rw [HCB.out, ← HQ.out]; rfl
      iterate 14 (first | (refine cl_do rfl rfl rfl rfl (fun _ _ => ?_); go_wp2_with fail) | (refine cl_yes rfl rfl rfl rfl (by first | rfl | simp [okB, lenV, plainV, Act.eval]) (fun _ _ => ?_); go_wp2_with fail) | (refine cl_no rfl rfl rfl ?_; go_simp))
      refine cl_nil ?_
      go_wp2_with fail
      go_ret
      exact ⟨by rw [HE.out]; rfl, HO.out.base⟩
    obtain ⟨g3', off3', cu', e3, hg3, cc, hcu⟩ := HS.out.cases.get HO.out.base HC.out
    cases e3
    obtain ⟨bk, -⟩ := HO.out.blk
    have hbx := lt_of_block bk
    have x0 := cell_of_heap bk (i := 0)
    have x1 := cell_of_heap bk (i := 1)
    have x2 := cell_of_heap bk (i := 2)
    have x3 := cell_of_heap bk (i := 3)
    have x4 := cell_of_heap bk (i := 4)
    have x5 := cell_of_heap bk (i := 5)
    simp only [List.getElem?_toArray, List.getElem?_cons_succ, List.getElem?_cons_zero] at x0 x1 x2 x3 x4 x5
    clear bk
    obtain ⟨bk, -⟩ := HO.out.pop.blk
    have h8 := lt_of_block bk
    have d0 := cell_of_heap bk (i := 0)
    have d1 := cell_of_heap bk (i := 1)
    have d2 := cell_of_heap bk (i := 2)
    have d3 := cell_of_heap bk (i := 3)
    have d4 := cell_of_heap bk (i := 4)
    have d5 := cell_of_heap bk (i := 5)
    have d6 := cell_of_heap bk (i := 6)
    have d7 := cell_of_heap bk (i := 7)
    have d8 := cell_of_heap bk (i := 8)
    have d9 := cell_of_heap bk (i := 9)
    have d10 := cell_of_heap bk (i := 10)
    have d11 := cell_of_heap bk (i := 11)
    simp only [List.getElem?_toArray, List.getElem?_cons_succ, List.getElem?_cons_zero] at d0 d1 d2 d3 d4 d5 d6 d7 d8 d9 d10 d11
    clear bk
    iterate 11 (first | (refine cl_do rfl rfl rfl rfl (fun _ _ => ?_); go_wp2_with fail) | (refine cl_yes rfl rfl rfl rfl (by first | rfl | simp [okB, lenV, plainV, Act.eval]) (fun _ _ => ?_); go_wp2_with fail) | (refine cl_no rfl rfl rfl ?_; go_simp))
    clear hg3 cc
    clear hbx x0 x1 x2 x3 x4 x5
    clear h8 d0 d1 d2 d3 d4 d5 d6 d7 d8 d9 d10 d11
    refine cl_ycall (i := 39) rfl rfl rfl rfl (fun K hK => ?_)
    go_wp2_with fail
    go_at_call 31
    refine (Holds_c m.cond W4 _ s.dom _ cs _ (HFm.out.later HO.out.base) (HS.out.dom.later HO.out.base) hcu HL.out.dom.len HCn.out HL.out.dom.names (lim := 140737488355328) (by omega) HMC.out.names HMC.out.size).mono ?_
    rintro e W5 ⟨rfl, hb⟩
    replace HO := Lib.hid (HO.out.below hb)
    have Hb := Lib.hid hb
    clear hcu hb
    obtain ⟨q, hq⟩ : ∃ q, q = holdsF s.dom cs m.cond := ⟨_, rfl⟩
    rw [← hq]
    have HQ2 := Lib.hid hq
    clear hq
    have HE : Hid (countsB s m = q) := by
      show _ = _
      rw [HCB.out, ← HQ.out, ← HQ2.out]; rfl
    go_wp2_with fail
    refine And.intro Hb.out ?_
    clear Hb
    iterate 2 (first | (refine cl_do rfl rfl rfl rfl (fun _ _ => ?_); go_wp2_with fail) | (refine cl_yes rfl rfl rfl rfl (by first | rfl | simp [okB, lenV, plainV, Act.eval]) (fun _ _ => ?_); go_wp2_with fail) | (refine cl_no rfl rfl rfl ?_; go_simp))
    refine cl_nil ?_
    go_wp2_with fail
    go_ret
    exact ⟨by rw [HE.out]; rfl, HO.out.base⟩
end Go.Proofs.YtakadfdnhlfijaaGreatDoor
namespace Go.Proofs.YtakadfdnhlfijaaGreatDoor
open Go.RowKit Go.Cz Go.Cz.Lx Go.Cz.Fo Go.Cz.Vd
open Go.Cz.Ck (Shift validB)
set_option linter.unusedSimpArgs false
set_option linter.unusedVariables false
attribute [local go_sem] bs_size bs_extract bs_append bs_toList
attribute [local irreducible] cList cPlan
set_option maxHeartbeats 4000000 in
/-- There are few measures. -/
theorem meFew_c (K : Nat) (hK0 : K ≤ 1000) (l : List Me) (lv : Value) (w : World) (hr : IsMeR w l lv) (h9 : l.length ≤ 9223372036854775807) (ht : ∀ m ∈ l, m.id.length ≤ 140737488355328 ∧ m.auth.length ≤ 140737488355328 ∧ m.target.length ≤ 140737488355328) :
    Calls Tryz.prog 26 #[lv, .int .i64 (K : Int)] w fun e w' => e = .returned (.bool (meFew K l)) ∧ Below w.heap.size w w' := by
  have HR := Lib.hid hr
  have HTx := Lib.hid ht
  obtain ⟨y, c, rfl⟩ := hr.form
  obtain ⟨N, hN⟩ : ∃ N, N = l.length := ⟨_, rfl⟩
  have HN := Lib.hid hN
  rw [← hN] at HR h9 ⊢
  clear hr hN ht
  by_cases hNK : N ≤ K
  rotate_left
  · have hk1 : ¬ (N : Int) ≤ (K : Int) := by omega
    have HE : Hid (meFew K l = false) := by show _ = _; unfold meFew; rw [← HN.out, decide_eq_false hNK]; rfl
    have hN0 : (0 : Int) < (N : Int) := by omega
    clear hNK
    go_enter Tryz.func26, Tryz.ntmps26
    go_wp2_with fail
    go_loopg [5] 1 (fun gk i wr => gk = 1 ∧ i = .int .i64 0 ∧ wr = w)
    case atStart => exact ⟨rfl, rfl, rfl⟩
    case round =>
      rename_i J1 K1 hJ1 hK1
      obtain ⟨-, rfl, rfl⟩ := hrel
      clear hJ1 hK1
      go_wp2_with fail
      go_ret
      exact ⟨by rw [HE.out]; rfl, Below.refl _ _⟩
  have hk1 : (N : Int) ≤ (K : Int) := by omega
  have HW : Hid (Below w.heap.size w w) := Lib.hid (Below.refl _ _)
  have HA : Hid ((l.take 0).all meFewB = true) := Lib.hid (by simp)
  go_enter Tryz.func26, Tryz.ntmps26
  go_wp2_with fail
  go_loopg [5] N (fun gk i wr => ∃ k : Nat, gk = N - k ∧ k ≤ N ∧ i = .int .i64 (k : Int) ∧ Hid ((l.take k).all meFewB = true) ∧ Hid (Below w.heap.size w wr))
  case atStart => exact ⟨0, rfl, Nat.zero_le _, rfl, HA, HW⟩
  case round =>
    rename_i J1 K1 hJ1 hK1
    clear HA HW
    obtain ⟨k, rfl, hk, rfl, HA, HW⟩ := hrel
    by_cases hlt : k < N
    · obtain ⟨m, hx⟩ : ∃ x, l[k]? = some x := ⟨_, List.getElem?_eq_getElem (by rw [← HN.out]; exact hlt)⟩
      obtain ⟨t1, t2, t3⟩ := HTx.out m (List.mem_of_getElem? hx)
      obtain ⟨g, off, kv, rfl, hg, hm, hf⟩ := HR.out.get HW.out hx
      have HX := Lib.hid hx
      obtain ⟨y2, m2, rfl⟩ := hf.form
      obtain ⟨n2, hn2⟩ : ∃ n, n = m.cond.kids.length := ⟨_, rfl⟩
      rw [← hn2] at hm hf
      clear hx hn2
      obtain ⟨c0, c1, c2, c3, c4, c5, c6, c7, c8, c9, c10, c11⟩ := hm
      obtain ⟨W2, hW2⟩ : ∃ W, W = wr.alloc (mobj m (.slice y2 n2 m2)) := ⟨_, rfl⟩
      have hb2 : Below wr.heap.size wr W2 := by rw [hW2]; exact (Below.refl _ _).alloc (Nat.le_refl _) _
      have HW2 : Hid (Below w.heap.size w W2) := Lib.hid (HW.out.trans (hb2.mono HW.out.size))
      have HFm := Lib.hid (hf.later hb2)
      clear hf hb2
      by_cases n1 : 60 < m.id.length
      · have hn1 : (60 : Int) < (m.id.length : Int) := by omega
        have HE : Hid (meFew K l = false) := by
          show _ = _
          unfold meFew
          rw [Bool.and_eq_false_iff]
          right
          rw [← Bool.not_eq_true, List.all_eq_true]
          intro h
          have h1 := h m (List.mem_of_getElem? HX.out)
          unfold meFewB at h1
          simp only [Bool.and_eq_true, decide_eq_true_eq] at h1
          have := h1.1; omega
        clear hJ1 hK1
        (try clear hn1)
        (try clear hn2)
        (try clear hn3)
        go_wp2_with fail
        go_ret
        exact ⟨by rw [HE.out]; rfl, by rw [← hW2]; exact HW2.out⟩
      have hn1 : ¬ (60 : Int) < (m.id.length : Int) := by omega
      by_cases n2' : 60 < m.auth.length
      · have hn2 : (60 : Int) < (m.auth.length : Int) := by omega
        have HE : Hid (meFew K l = false) := by
          show _ = _
          unfold meFew
          rw [Bool.and_eq_false_iff]
          right
          rw [← Bool.not_eq_true, List.all_eq_true]
          intro h
          have h1 := h m (List.mem_of_getElem? HX.out)
          unfold meFewB at h1
          simp only [Bool.and_eq_true, decide_eq_true_eq] at h1
          have := h1.2.1; omega
        clear hJ1 hK1
        (try clear hn1)
        (try clear hn2)
        (try clear hn3)
        go_wp2_with fail
        go_ret
        exact ⟨by rw [HE.out]; rfl, by rw [← hW2]; exact HW2.out⟩
      have hn2 : ¬ (60 : Int) < (m.auth.length : Int) := by omega
      by_cases n3 : 60 < m.target.length
      · have hn3 : (60 : Int) < (m.target.length : Int) := by omega
        have HE : Hid (meFew K l = false) := by
          show _ = _
          unfold meFew
          rw [Bool.and_eq_false_iff]
          right
          rw [← Bool.not_eq_true, List.all_eq_true]
          intro h
          have h1 := h m (List.mem_of_getElem? HX.out)
          unfold meFewB at h1
          simp only [Bool.and_eq_true, decide_eq_true_eq] at h1
          have := h1.2.2.1; omega
        clear hJ1 hK1
        (try clear hn1)
        (try clear hn2)
        (try clear hn3)
        go_wp2_with fail
        go_ret
        exact ⟨by rw [HE.out]; rfl, by rw [← hW2]; exact HW2.out⟩
      have hn3 : ¬ (60 : Int) < (m.target.length : Int) := by omega
      go_wp2_with fail
      rw [← hW2]
      clear hW2 hg c0 c1 c2 c3 c4 c5 c6 c7 c8 c9 c10 c11
      go_at_call 53
      refine (Small26_c m.cond W2 _ 60 HFm.out (by omega)).mono ?_
      rintro e W3 ⟨rfl, hb⟩
      have HW3 : Hid (Below w.heap.size w W3) := Lib.hid (HW2.out.trans (hb.mono HW2.out.size))
      clear hb HW2 HFm
      obtain ⟨q, hq⟩ : ∃ q, q = decide (size m.cond ≤ 60) := ⟨_, rfl⟩
      rw [← hq]
      have HQ := Lib.hid hq
      clear hq
      cases q
      · have HE : Hid (meFew K l = false) := by
          show _ = _
          unfold meFew
          rw [Bool.and_eq_false_iff]
          right
          rw [← Bool.not_eq_true, List.all_eq_true]
          intro h
          have h1 := h m (List.mem_of_getElem? HX.out)
          unfold meFewB at h1
          simp only [Bool.and_eq_true, decide_eq_true_eq] at h1
          have h2 := HQ.out; rw [decide_eq_true h1.2.2.2] at h2; cases h2
        clear hJ1 hK1
        (try clear hn1)
        (try clear hn2)
        (try clear hn3)
        go_wp2_with fail
        go_ret
        exact ⟨by rw [HE.out]; rfl, HW3.out⟩
      have HA2 : Hid ((l.take (k + 1)).all meFewB = true) := by
        show _ = _
        rw [List.take_add_one, HX.out, List.all_append, HA.out]
        simp only [Option.toList_some, List.all_cons, List.all_nil, Bool.and_true, Bool.true_and]
        unfold meFewB
        rw [← HQ.out, decide_eq_true (p := m.id.length ≤ 60) (by omega), decide_eq_true (p := m.auth.length ≤ 60) (by omega), decide_eq_true (p := m.target.length ≤ 60) (by omega)]
        rfl
      clear HQ hn1 hn2 hn3 n1 n2' n3 t1 t2 t3
      go_wp2_with fail
      go_roundg (N - (k + 1))
      case measure => omega
      case rel => exact ⟨k + 1, rfl, by omega, by go_num, HA2, HW3⟩
    · obtain rfl : k = N := by omega
      have HE : Hid (meFew K l = true) := by
        show _ = _
        have := HA.out
        rw [HN.out, List.take_length] at this
        unfold meFew
        rw [this, ← HN.out, decide_eq_true hNK]; rfl
      clear hJ1 hK1 hlt hNK
      go_wp2_with fail
      go_ret
      exact ⟨by rw [HE.out]; rfl, HW.out⟩
set_option maxHeartbeats 4000000 in
/-- A scene is small. -/
theorem scFew_c (s : Sc) (vd va vz vc : Value) (w : World) (hs : IsSc w s vd va vz vc) (h1 : s.dom.length ≤ 9223372036854775807) (h2 : s.auths.length ≤ 9223372036854775807) (h3 : s.zones.length ≤ 9223372036854775807) (h4 : s.cases.length ≤ 9223372036854775807) :
    Calls Tryz.prog 27 #[sval s vd va vz vc] w fun e w' => e = .returned (.bool (scFew s)) ∧ Below w.heap.size w w' := by
  obtain ⟨yd, md, rfl⟩ := hs.dom.form
  obtain ⟨ya, ma, rfl⟩ := hs.auths.form
  obtain ⟨yz, mz, rfl⟩ := hs.zones.form
  obtain ⟨yc, mc, rfl⟩ := hs.cases.form
  obtain ⟨ND, hND⟩ : ∃ n, n = s.dom.length := ⟨_, rfl⟩
  obtain ⟨NA, hNA⟩ : ∃ n, n = s.auths.length := ⟨_, rfl⟩
  obtain ⟨NZ, hNZ⟩ : ∃ n, n = s.zones.length := ⟨_, rfl⟩
  obtain ⟨NC, hNC⟩ : ∃ n, n = s.cases.length := ⟨_, rfl⟩
  rw [← hND, ← hNA, ← hNZ, ← hNC] at hs
  have HND := Lib.hid hND
  have HNA := Lib.hid hNA
  have HNZ := Lib.hid hNZ
  have HNC := Lib.hid hNC
  have HS := Lib.hid hs
  clear hs
  rw [← hND] at h1 ⊢
  rw [← hNA] at h2 ⊢
  rw [← hNZ] at h3 ⊢
  rw [← hNC] at h4 ⊢
  clear hND hNA hNZ hNC
  obtain ⟨W1, hW1⟩ : ∃ W1, W1 = w.alloc (sobj s (.slice yd ND md) (.slice ya NA ma) (.slice yz NZ mz) (.slice yc NC mc)) := ⟨_, rfl⟩
  obtain ⟨bx, hbx⟩ : ∃ b, b = w.heap.size := ⟨_, rfl⟩
  have HO : Hid (Owns w W1 [blk bx (sobj s (.slice yd ND md) (.slice ya NA ma) (.slice yz NZ mz) (.slice yc NC mc))]) := by
    rw [hW1, hbx]
    exact Lib.hid ((Owns.start w).box _)
  go_enter Tryz.func27, Tryz.ntmps27
  by_cases n1 : 20 < ND
  · have n1' : (20 : Int) < (ND : Int) := by omega
    have HE : Hid (scFew s = false) := by
      show _ = _
      rw [← Bool.not_eq_true]
      intro h
      unfold scFew at h
      simp only [Bool.and_eq_true, decide_eq_true_eq, List.all_eq_true] at h
      have := h.1; rw [← HND.out] at this; omega
    clear n1
    go_wp2_with fail
    go_ret
    exact ⟨by rw [HE.out]; rfl, by rw [← hW1]; exact HO.out.base⟩
  have n1' : ¬ (20 : Int) < (ND : Int) := by omega
  by_cases n2 : 8 < NA
  · have n2' : (8 : Int) < (NA : Int) := by omega
    have HE : Hid (scFew s = false) := by
      show _ = _
      rw [← Bool.not_eq_true]
      intro h
      unfold scFew at h
      simp only [Bool.and_eq_true, decide_eq_true_eq, List.all_eq_true] at h
      have := h.2.1; rw [← HNA.out] at this; omega
    clear n1 n2
    go_wp2_with fail
    go_ret
    exact ⟨by rw [HE.out]; rfl, by rw [← hW1]; exact HO.out.base⟩
  have n2' : ¬ (8 : Int) < (NA : Int) := by omega
  by_cases n3 : 8 < NZ
  · have n3' : (8 : Int) < (NZ : Int) := by omega
    have HE : Hid (scFew s = false) := by
      show _ = _
      rw [← Bool.not_eq_true]
      intro h
      unfold scFew at h
      simp only [Bool.and_eq_true, decide_eq_true_eq, List.all_eq_true] at h
      have := h.2.2.1; rw [← HNZ.out] at this; omega
    clear n1 n2 n3
    go_wp2_with fail
    go_ret
    exact ⟨by rw [HE.out]; rfl, by rw [← hW1]; exact HO.out.base⟩
  have n3' : ¬ (8 : Int) < (NZ : Int) := by omega
  by_cases n4 : 8 < NC
  · have n4' : (8 : Int) < (NC : Int) := by omega
    have HE : Hid (scFew s = false) := by
      show _ = _
      rw [← Bool.not_eq_true]
      intro h
      unfold scFew at h
      simp only [Bool.and_eq_true, decide_eq_true_eq, List.all_eq_true] at h
      have := h.2.2.2.1; rw [← HNC.out] at this; omega
    clear n1 n2 n3 n4
    go_wp2_with fail
    go_ret
    exact ⟨by rw [HE.out]; rfl, by rw [← hW1]; exact HO.out.base⟩
  have n4' : ¬ (8 : Int) < (NC : Int) := by omega
  go_wp2_with fail
  rw [← hW1, ← hbx]
  clear hW1 hbx n1' n2' n3' n4'
  obtain ⟨bk, -⟩ := HO.out.blk
  have hbx := lt_of_block bk
  have x0 := cell_of_heap bk (i := 0)
  have x1 := cell_of_heap bk (i := 1)
  have x2 := cell_of_heap bk (i := 2)
  have x3 := cell_of_heap bk (i := 3)
  have x4 := cell_of_heap bk (i := 4)
  have x5 := cell_of_heap bk (i := 5)
  simp only [List.getElem?_toArray, List.getElem?_cons_succ, List.getElem?_cons_zero] at x0 x1 x2 x3 x4 x5
  clear bk
  have HA : Hid ((s.zones.take 0).all (fun z => decide (z.length ≤ 20)) = true) := Lib.hid (by simp)
  go_loopg [3] NZ (fun gk i wr => ∃ k : Nat, gk = NZ - k ∧ k ≤ NZ ∧ i = .int .i64 (k : Int) ∧ wr = W1 ∧ Hid ((s.zones.take k).all (fun z => decide (z.length ≤ 20)) = true))
  case atStart => exact ⟨0, rfl, Nat.zero_le _, rfl, rfl, HA⟩
  case round =>
    rename_i J1 K1 hJ1 hK1
    clear HA
    obtain ⟨k, rfl, hk, rfl, rfl, HA⟩ := hrel
    by_cases hlt : k < NZ
    · obtain ⟨z, hx⟩ : ∃ x, s.zones[k]? = some x := ⟨_, List.getElem?_eq_getElem (by rw [← HNZ.out]; exact hlt)⟩
      obtain ⟨g, off, zx, zc, rfl, hg, cz, -⟩ := HS.out.zones.get HO.out.base hx
      have HX := Lib.hid hx
      clear hx
      obtain ⟨nz, hnz⟩ : ∃ n, n = z.length := ⟨_, rfl⟩
      rw [← hnz] at cz
      have HNz := Lib.hid hnz
      clear hnz
      by_cases z20 : 20 < nz
      · have z20' : (20 : Int) < (nz : Int) := by omega
        have HE : Hid (scFew s = false) := by
          show _ = _
          rw [← Bool.not_eq_true]
          intro h
          unfold scFew at h
          simp only [Bool.and_eq_true, decide_eq_true_eq, List.all_eq_true] at h
          have := h.2.2.2.2.1 z (List.mem_of_getElem? HX.out); rw [← HNz.out] at this; omega
        clear hJ1 hK1 z20
        go_wp2_with fail
        go_ret
        exact ⟨by rw [HE.out]; rfl, HO.out.base⟩
      have z20' : ¬ (20 : Int) < (nz : Int) := by omega
      have HA2 : Hid ((s.zones.take (k + 1)).all (fun z => decide (z.length ≤ 20)) = true) := by
        show _ = _
        rw [List.take_add_one, HX.out, List.all_append, HA.out]
        simp only [Option.toList_some, List.all_cons, List.all_nil, Bool.and_true, Bool.true_and]
        rw [← HNz.out]
        exact decide_eq_true (by omega)
      clear z20
      go_wp2_with fail
      clear hg cz z20'
      go_roundg (NZ - (k + 1))
      case measure => omega
      case rel => exact ⟨k + 1, rfl, by omega, by go_num, rfl, HA2⟩
    · obtain rfl : k = NZ := by omega
      have HZ : Hid (s.zones.all (fun z => decide (z.length ≤ 20)) = true) := by
        show _ = _
        have := HA.out
        rw [HNZ.out, List.take_length] at this
        exact this
      clear hJ1 hK1 hlt HA
      go_wp2_with fail
      have HA : Hid ((s.cases.take 0).all (fun z => decide (z.length ≤ 30)) = true) := Lib.hid (by simp)
      go_loopg [4] NC (fun gk i w2 => ∃ k : Nat, gk = NC - k ∧ k ≤ NC ∧ i = .int .i64 (k : Int) ∧ w2 = wr ∧ Hid ((s.cases.take k).all (fun z => decide (z.length ≤ 30)) = true))
      case atStart => exact ⟨0, rfl, Nat.zero_le _, rfl, rfl, HA⟩
      case round =>
        rename_i J2 K2 hJ2 hK2
        clear HA
        obtain ⟨j, rfl, hj, rfl, rfl, HA⟩ := hrel
        by_cases hlt : j < NC
        · obtain ⟨z, hx⟩ : ∃ x, s.cases[j]? = some x := ⟨_, List.getElem?_eq_getElem (by rw [← HNC.out]; exact hlt)⟩
          obtain ⟨g, off, u, rfl, hg, cz, hu⟩ := HS.out.cases.get HO.out.base hx
          have HX := Lib.hid hx
          obtain ⟨ux, uc, rfl⟩ := hu.form
          clear hx hu
          obtain ⟨nz, hnz⟩ : ∃ n, n = z.length := ⟨_, rfl⟩
          rw [← hnz] at cz
          have HNz := Lib.hid hnz
          clear hnz
          by_cases z20 : 30 < nz
          · have z20' : (30 : Int) < (nz : Int) := by omega
            have HE : Hid (scFew s = false) := by
              show _ = _
              rw [← Bool.not_eq_true]
              intro h
              unfold scFew at h
              simp only [Bool.and_eq_true, decide_eq_true_eq, List.all_eq_true] at h
              have := h.2.2.2.2.2 z (List.mem_of_getElem? HX.out); rw [← HNz.out] at this; omega
            clear hJ2 hK2 z20
            go_wp2_with fail
            go_ret
            exact ⟨by rw [HE.out]; rfl, HO.out.base⟩
          have z20' : ¬ (30 : Int) < (nz : Int) := by omega
          have HA2 : Hid ((s.cases.take (j + 1)).all (fun z => decide (z.length ≤ 30)) = true) := by
            show _ = _
            rw [List.take_add_one, HX.out, List.all_append, HA.out]
            simp only [Option.toList_some, List.all_cons, List.all_nil, Bool.and_true, Bool.true_and]
            rw [← HNz.out]
            exact decide_eq_true (by omega)
          clear z20
          go_wp2_with fail
          clear hg cz z20'
          go_roundg (NC - (j + 1))
          case measure => omega
          case rel => exact ⟨j + 1, rfl, by omega, by go_num, rfl, HA2⟩
        · obtain rfl : j = NC := by omega
          have HE : Hid (scFew s = true) := by
            show _ = _
            have := HA.out
            rw [HNC.out, List.take_length] at this
            unfold scFew
            rw [this, HZ.out, ← HND.out, ← HNA.out, ← HNZ.out, ← HNC.out, decide_eq_true (p := ND ≤ 20) (by omega), decide_eq_true (p := NA ≤ 8) (by omega), decide_eq_true (p := k ≤ 8) (by omega), decide_eq_true (p := j ≤ 8) (by omega)]
            rfl
          clear hJ2 hK2 hlt
          go_wp2_with fail
          go_ret
          exact ⟨by rw [HE.out]; rfl, HO.out.base⟩
set_option maxHeartbeats 2000000 in
/-- The laws' 'few'. -/
theorem fewV_c (l : List Me) (s : Sc) (lv vd va vz vc : Value) (w : World) (hr : IsMeR w l lv) (hs : IsSc w s vd va vz vc) (h9 : l.length ≤ 9223372036854775807) (ht : ∀ m ∈ l, m.id.length ≤ 140737488355328 ∧ m.auth.length ≤ 140737488355328 ∧ m.target.length ≤ 140737488355328) (h1 : s.dom.length ≤ 9223372036854775807) (h2 : s.auths.length ≤ 9223372036854775807) (h3 : s.zones.length ≤ 9223372036854775807) (h4 : s.cases.length ≤ 9223372036854775807) :
    Calls Tryz.prog 10 #[lv, sval s vd va vz vc] w fun e w' => e = .returned (.bool (fewV l s)) ∧ Below w.heap.size w w' := by
  have HM := Lib.hid fun (W : World) (hb : Below w.heap.size w W) => meFew_c 8 (by omega) l lv W (hr.later hb) h9 ht
  have HSm := Lib.hid fun (W : World) (hb : Below w.heap.size w W) => scFew_c s vd va vz vc W (hs.later hb) h1 h2 h3 h4
  obtain ⟨y, c, rfl⟩ := hr.form
  obtain ⟨N, hN⟩ : ∃ N, N = l.length := ⟨_, rfl⟩
  rw [← hN] at HM ⊢
  clear hr hN h9 ht h1 h2 h3 h4
  obtain ⟨yd, md, rfl⟩ := hs.dom.form
  obtain ⟨ya, ma, rfl⟩ := hs.auths.form
  obtain ⟨yz, mz, rfl⟩ := hs.zones.form
  obtain ⟨yc, mc, rfl⟩ := hs.cases.form
  obtain ⟨ND, hND⟩ : ∃ n, n = s.dom.length := ⟨_, rfl⟩
  obtain ⟨NA, hNA⟩ : ∃ n, n = s.auths.length := ⟨_, rfl⟩
  obtain ⟨NZ, hNZ⟩ : ∃ n, n = s.zones.length := ⟨_, rfl⟩
  obtain ⟨NC, hNC⟩ : ∃ n, n = s.cases.length := ⟨_, rfl⟩
  rw [← hND, ← hNA, ← hNZ, ← hNC] at hs
  have HND := Lib.hid hND
  have HNA := Lib.hid hNA
  have HNZ := Lib.hid hNZ
  have HNC := Lib.hid hNC
  have HS := Lib.hid hs
  clear hs
  rw [← hND, ← hNA, ← hNZ, ← hNC] at HSm ⊢
  clear hND hNA hNZ hNC HND HNA HNZ HNC
  obtain ⟨W1, hW1⟩ : ∃ W1, W1 = w.alloc (sobj s (.slice yd ND md) (.slice ya NA ma) (.slice yz NZ mz) (.slice yc NC mc)) := ⟨_, rfl⟩
  obtain ⟨bx, hbx⟩ : ∃ b, b = w.heap.size := ⟨_, rfl⟩
  have HO : Hid (Owns w W1 [blk bx (sobj s (.slice yd ND md) (.slice ya NA ma) (.slice yz NZ mz) (.slice yc NC mc))]) := by
    rw [hW1, hbx]
    exact Lib.hid ((Owns.start w).box _)
  go_enter Tryz.func10, Tryz.ntmps10
  go_wp2_with fail
  rw [← hW1, ← hbx]
  clear hW1 hbx
  go_at_call 26
  refine (HM.out W1 HO.out.base).mono ?_
  rintro e W2 ⟨rfl, hb⟩
  replace HO := Lib.hid (HO.out.below hb)
  clear hb HM
  obtain ⟨q, hq⟩ : ∃ q, q = meFew 8 l := ⟨_, rfl⟩
  rw [← hq]
  have HQ := Lib.hid hq
  clear hq
  cases q
  · have HE : Hid (fewV l s = false) := by show _ = _; unfold fewV; rw [← HQ.out]; rfl
    go_wp2_with fail
    go_ret
    exact ⟨by rw [HE.out]; rfl, HO.out.base⟩
  obtain ⟨bk, -⟩ := HO.out.blk
  have hbx := lt_of_block bk
  have x0 := cell_of_heap bk (i := 0)
  have x1 := cell_of_heap bk (i := 1)
  have x2 := cell_of_heap bk (i := 2)
  have x3 := cell_of_heap bk (i := 3)
  have x4 := cell_of_heap bk (i := 4)
  have x5 := cell_of_heap bk (i := 5)
  simp only [List.getElem?_toArray, List.getElem?_cons_succ, List.getElem?_cons_zero] at x0 x1 x2 x3 x4 x5
  clear bk
  go_wp2_with fail
  clear hbx x0 x1 x2 x3 x4 x5
  go_at_call 27
  refine (HSm.out W2 HO.out.base).mono ?_
  rintro e W3 ⟨rfl, hb⟩
  replace HO := Lib.hid (HO.out.below hb)
  clear hb HSm
  have HE : Hid (fewV l s = scFew s) := by show _ = _; unfold fewV; rw [← HQ.out]; rfl
  obtain ⟨q, hq⟩ : ∃ q, q = scFew s := ⟨_, rfl⟩
  rw [← hq] at HE ⊢
  clear hq HQ
  go_wp2_with fail
  go_ret
  exact ⟨by rw [HE.out]; rfl, HO.out.base⟩
end Go.Proofs.YtakadfdnhlfijaaGreatDoor
namespace Go.Cz.Vd
open Go.Cz.Lx Go.Cz.Fo
open Go.Cz.Ck (Shift validB)
def tM1 : Bytes := [109, 49]
def tX1 : Bytes := [120, 49]
def tB1 : Bytes := [98, 49]
def tEu : Bytes := [101, 117]
def tUs : Bytes := [117, 115]
def tVal : Bytes := [118, 97, 108, 117, 101]
def moreF (n : Int) : Fm := .mk 3 tVal 6 n []
def exMs : List Me := [⟨tM1, tEu, 1, [], moreF 5, 2, -1, 0⟩, ⟨tX1, tEu, 2, tM1, moreF 9, 8, -1, 0⟩, ⟨tB1, tUs, 3, tEu, .mk 1 [] 0 0 [], 5, -1, 0⟩]
def exSc (day : Int) : Sc := ⟨[⟨tVal, 2, 0, 100⟩], [tEu, tUs], [[(0, 0)], [(0, 0)]], [[10], [10]], 0, day * 1440⟩
theorem ex_licensed : licensedV exMs (exSc 1) [] = (⟨1, [], []⟩, 0) ∧ licensedV exMs (exSc 2) [] = (⟨2, [tM1], []⟩, 0) ∧ licensedV exMs (exSc 5) [] = (⟨3, [tM1], [tB1]⟩, 0) ∧ licensedV exMs (exSc 5) [tM1] = (⟨4, [tM1], []⟩, 0) ∧ licensedV exMs (exSc 8) [] = (⟨1, [], []⟩, 0) := by
  have h : ∀ (r : Ve × Nat) (k : Int) (f b : List Bytes), (r.1.kind = k ∧ r.1.forbids = f ∧ r.1.blocks = b ∧ r.2 = 0) → r = (⟨k, f, b⟩, 0) := by
    rintro ⟨⟨a, b, c⟩, d⟩ k f b' ⟨rfl, rfl, rfl, rfl⟩; rfl
  exact ⟨h _ _ _ _ (by decide +kernel), h _ _ _ _ (by decide +kernel), h _ _ _ _ (by decide +kernel), h _ _ _ _ (by decide +kernel), h _ _ _ _ (by decide +kernel)⟩
theorem ex_proper : properB (exSc 3) = true := by decide +kernel
end Go.Cz.Vd
namespace Go.Proofs.YtakadfdnhlfijaaGreatDoor
open Go.RowKit Go.Cz Go.Cz.Lx Go.Cz.Fo Go.Cz.Vd
open Go.Cz.Ck (Shift validB)
set_option linter.unusedSimpArgs false
set_option linter.unusedVariables false
attribute [local go_sem] bs_size bs_extract bs_append bs_toList
attribute [local irreducible] cList cPlan
theorem more_c (n : Int) (w : World) : Calls Tryz.prog 52 #[.int .i64 n] w fun e w' => e = .returned (.agg #[.int .i64 3, .string (bs tVal), .int .i64 6, .int .i64 n, .slice none 0 0]) ∧ Below w.heap.size w w' := by
  go_enter Tryz.func52, Tryz.ntmps52
  go_wp2_with fail
  refine bodyPost_ret (v := .agg #[.int .i64 3, .string (bs tVal), .int .i64 6, .int .i64 n, .slice none 0 0]) (by simp [results, Tryz.results52, go_sem, bs, tVal]) rfl ?_
  exact ⟨rfl, by repeat (first | exact Below.refl _ _ | (refine Below.setCell ?_ (by simp) _) | (refine Below.alloc ?_ (by simp) _))⟩
abbrev exCells : List Value := [.string (bs tM1), .string (bs tEu), .int .i64 1, .string (bs []), .int .i64 3, .string (bs tVal), .int .i64 6, .int .i64 5, .slice none 0 0, .int .i64 2, .int .i64 (-1), .int .i64 0,
  .string (bs tX1), .string (bs tEu), .int .i64 2, .string (bs tM1), .int .i64 3, .string (bs tVal), .int .i64 6, .int .i64 9, .slice none 0 0, .int .i64 8, .int .i64 (-1), .int .i64 0,
  .string (bs tB1), .string (bs tUs), .int .i64 3, .string (bs tEu), .int .i64 1, .string (bs []), .int .i64 0, .int .i64 0, .slice none 0 0, .int .i64 5, .int .i64 (-1), .int .i64 0]
theorem ex_me {W : World} {g : Nat} (h : W.heap[g]? = some (.cells exCells.toArray 46 (0, 0))) : IsMeR W exMs (.slice (some ⟨g, 0, none⟩) 3 3) := by
  refine ⟨_, 3, rfl, .inr ⟨g, 0, rfl, lt_of_block h, Nat.le_refl _, fun j m hj => ?_⟩⟩
  have k : ∀ i, W.cell? ⟨g, i, none⟩ = exCells[i]? := fun i => by rw [cell_of_heap h]; simp
  rcases j with _ | _ | _ | j
  · obtain rfl : _ = m := by simpa [exMs] using hj
    exact ⟨.slice none 0 0, ⟨k 0, k 1, k 2, k 3, k 4, k 5, k 6, k 7, k 8, k 9, k 10, k 11⟩, .leaf _ _ _ _ _ _⟩
  · obtain rfl : _ = m := by simpa [exMs] using hj
    exact ⟨.slice none 0 0, ⟨k 12, k 13, k 14, k 15, k 16, k 17, k 18, k 19, k 20, k 21, k 22, k 23⟩, .leaf _ _ _ _ _ _⟩
  · obtain rfl : _ = m := by simpa [exMs] using hj
    exact ⟨.slice none 0 0, ⟨k 24, k 25, k 26, k 27, k 28, k 29, k 30, k 31, k 32, k 33, k 34, k 35⟩, .leaf _ _ _ _ _ _⟩
  · simp [exMs] at hj
set_option maxRecDepth 100000 in
set_option maxHeartbeats 4000000 in
theorem measures_c (w : World) : Calls Tryz.prog 24 #[] w fun e w' => ∃ v, e = .returned v ∧ IsMeR w' exMs v ∧ Below w.heap.size w w' := by
  go_enter Tryz.func24, Tryz.ntmps24
  go_wp2_with fail
  go_at_call 52
  refine (more_c 5 w).mono ?_
  rintro e W2 ⟨rfl, hb⟩
  have Hb := Lib.hid hb
  clear hb
  go_wp2_with fail
  go_at_call 52
  refine (more_c 9 W2).mono ?_
  rintro e W3 ⟨rfl, hb⟩
  replace Hb := Lib.hid (Hb.out.trans (hb.mono Hb.out.size))
  clear hb
  obtain ⟨W4, hW4⟩ : ∃ W, W = W3.alloc (.cells exCells.toArray 46) := ⟨_, rfl⟩
  have HE : Hid (IsMeR W4 exMs (.slice (some ⟨W3.heap.size, 0, none⟩) 3 3) ∧ Below w.heap.size w W4) := by
    rw [hW4]
    exact ⟨ex_me (new_heap W3 _ _ rfl), Hb.out.alloc Hb.out.size _⟩
  go_wp2_with fail
  go_ret
  rw [hW4] at HE
  exact ⟨_, rfl, HE.out.1, HE.out.2⟩
set_option maxRecDepth 100000 in
set_option maxHeartbeats 4000000 in
theorem scene_c (d : Int) (h0 : 0 ≤ d) (h1 : d ≤ 1000) (w : World) : Calls Tryz.prog 25 #[.int .i64 d] w fun e w' => ∃ vd va vz vc, e = .returned (sval (exSc d) vd va vz vc) ∧ IsSc w' (exSc d) vd va vz vc ∧ Below w.heap.size w w' := by
  have ho := ((((((((((Owns.start w).box (.cells #[Value.slice (some ⟨w.heap.size + 1 + 1 + 1, 0, none⟩) 1 1, Value.slice (some ⟨w.heap.size + 1 + 1 + 1 + 1, 0, none⟩) 2 2, Value.slice (some ⟨w.heap.size + 1 + 1 + 1 + 1 + 1, 0, none⟩) 2 2, Value.slice (some ⟨w.heap.size + 1 + 1 + 1 + 1 + 1 + 1 + 1 + 1, 0, none⟩) 2 2, .int .i64 0, .int .i64 (d * 1440)] 30 (0, 0))).box (.cells #[.int .i64 0, .int .i64 0] 89 (0, 0))).box (.cells #[Value.slice (some ⟨w.heap.size + 1, 0, none⟩) 1 1] 66 (0, 0))).box (.cells #[.string (bs tVal), .int .i64 2, .int .i64 0, .int .i64 100] 91 (0, 0))).box (.cells #[.string (bs tEu), .string (bs tUs)] 9 (0, 0))).box (.cells #[Value.slice (some ⟨w.heap.size + 1, 0, none⟩) 1 1, Value.slice (some ⟨w.heap.size + 1, 0, none⟩) 1 1] 66 (0, 0))).box (.cells #[.int .i64 10] 3 (0, 0))).box (.cells #[.int .i64 10] 3 (0, 0))).box (.cells #[Value.slice (some ⟨w.heap.size + 1 + 1 + 1 + 1 + 1 + 1, 0, none⟩) 1 1, Value.slice (some ⟨w.heap.size + 1 + 1 + 1 + 1 + 1 + 1 + 1, 0, none⟩) 1 1] 68 (0, 0)))
  simp only [World.size_alloc] at ho
  obtain ⟨W, hW⟩ : ∃ W, W = (((((((((w.alloc (.cells #[Value.slice (some ⟨w.heap.size + 1 + 1 + 1, 0, none⟩) 1 1, Value.slice (some ⟨w.heap.size + 1 + 1 + 1 + 1, 0, none⟩) 2 2, Value.slice (some ⟨w.heap.size + 1 + 1 + 1 + 1 + 1, 0, none⟩) 2 2, Value.slice (some ⟨w.heap.size + 1 + 1 + 1 + 1 + 1 + 1 + 1 + 1, 0, none⟩) 2 2, .int .i64 0, .int .i64 (d * 1440)] 30 (0, 0))).alloc (.cells #[.int .i64 0, .int .i64 0] 89 (0, 0))).alloc (.cells #[Value.slice (some ⟨w.heap.size + 1, 0, none⟩) 1 1] 66 (0, 0))).alloc (.cells #[.string (bs tVal), .int .i64 2, .int .i64 0, .int .i64 100] 91 (0, 0))).alloc (.cells #[.string (bs tEu), .string (bs tUs)] 9 (0, 0))).alloc (.cells #[Value.slice (some ⟨w.heap.size + 1, 0, none⟩) 1 1, Value.slice (some ⟨w.heap.size + 1, 0, none⟩) 1 1] 66 (0, 0))).alloc (.cells #[.int .i64 10] 3 (0, 0))).alloc (.cells #[.int .i64 10] 3 (0, 0))).alloc (.cells #[Value.slice (some ⟨w.heap.size + 1 + 1 + 1 + 1 + 1 + 1, 0, none⟩) 1 1, Value.slice (some ⟨w.heap.size + 1 + 1 + 1 + 1 + 1 + 1 + 1, 0, none⟩) 1 1] 68 (0, 0))) := ⟨_, rfl⟩
  rw [← hW] at ho
  have k0 := (Owns.drop ho 8).blk.1
  have k1 := (Owns.drop ho 7).blk.1
  have k2 := (Owns.drop ho 6).blk.1
  have k3 := (Owns.drop ho 5).blk.1
  have k4 := (Owns.drop ho 4).blk.1
  have k5 := (Owns.drop ho 3).blk.1
  have k6 := (Owns.drop ho 2).blk.1
  have k7 := (Owns.drop ho 1).blk.1
  have k8 := (Owns.drop ho 0).blk.1
  have hz : IsShifts W (some ⟨w.heap.size + 1, 0, none⟩) 1 [(0, 0)] := ⟨rfl, by omega, .inr ⟨_, 0, rfl, lt_of_block k1, fun j x hj => by
    rcases j with _ | j
    · obtain rfl : _ = x := by simpa using hj
      exact ⟨by rw [cell_of_heap k1]; rfl, by rw [cell_of_heap k1]; rfl⟩
    · simp at hj⟩⟩
  have hd : IsD W (exSc d).dom (Value.slice (some ⟨w.heap.size + 1 + 1 + 1, 0, none⟩) 1 1) := ⟨_, 1, rfl, .inr ⟨_, 0, rfl, lt_of_block k3, Nat.le_refl _, fun j x hj => by
    rcases j with _ | j
    · obtain rfl : _ = x := by simpa [exSc] using hj
      exact ⟨by rw [cell_of_heap k3]; rfl, by rw [cell_of_heap k3]; rfl, by rw [cell_of_heap k3]; rfl, by rw [cell_of_heap k3]; rfl⟩
    · simp [exSc] at hj⟩⟩
  have ha : IsTxR W (exSc d).auths (Value.slice (some ⟨w.heap.size + 1 + 1 + 1 + 1, 0, none⟩) 2 2) := ⟨_, 2, rfl, .inr ⟨_, 0, rfl, lt_of_block k4, Nat.le_refl _, fun j x hj => by
    rcases j with _ | _ | j
    · obtain rfl : _ = x := by simpa [exSc] using hj
      rw [cell_of_heap k4]; rfl
    · obtain rfl : _ = x := by simpa [exSc] using hj
      rw [cell_of_heap k4]; rfl
    · simp [exSc] at hj⟩⟩
  have hzz : IsZoR W (exSc d).zones (Value.slice (some ⟨w.heap.size + 1 + 1 + 1 + 1 + 1, 0, none⟩) 2 2) := ⟨_, 2, rfl, .inr ⟨_, 0, rfl, lt_of_block k5, Nat.le_refl _, fun j x hj => by
    rcases j with _ | _ | j
    · obtain rfl : _ = x := by simpa [exSc] using hj
      exact ⟨_, 1, by rw [cell_of_heap k5]; rfl, hz⟩
    · obtain rfl : _ = x := by simpa [exSc] using hj
      exact ⟨_, 1, by rw [cell_of_heap k5]; rfl, hz⟩
    · simp [exSc] at hj⟩⟩
  have hca : ∀ g, W.heap[g]? = some (.cells #[.int .i64 10] 3 (0, 0)) → IsC W [10] (.slice (some ⟨g, 0, none⟩) 1 1) := fun g hg => ⟨_, 1, rfl, .inr ⟨_, 0, rfl, lt_of_block hg, Nat.le_refl _, fun j x hj => by
    rcases j with _ | j
    · obtain rfl : _ = x := by simpa using hj
      rw [cell_of_heap hg]; rfl
    · simp at hj⟩⟩
  have hcc : IsCaR W (exSc d).cases (Value.slice (some ⟨w.heap.size + 1 + 1 + 1 + 1 + 1 + 1 + 1 + 1, 0, none⟩) 2 2) := ⟨_, 2, rfl, .inr ⟨_, 0, rfl, lt_of_block k8, Nat.le_refl _, fun j x hj => by
    rcases j with _ | _ | j
    · obtain rfl : _ = x := by simpa [exSc] using hj
      exact ⟨_, by rw [cell_of_heap k8]; rfl, hca _ k6⟩
    · obtain rfl : _ = x := by simpa [exSc] using hj
      exact ⟨_, by rw [cell_of_heap k8]; rfl, hca _ k7⟩
    · simp [exSc] at hj⟩⟩
  have HE : Hid (IsSc W (exSc d) (Value.slice (some ⟨w.heap.size + 1 + 1 + 1, 0, none⟩) 1 1) (Value.slice (some ⟨w.heap.size + 1 + 1 + 1 + 1, 0, none⟩) 2 2) (Value.slice (some ⟨w.heap.size + 1 + 1 + 1 + 1 + 1, 0, none⟩) 2 2) (Value.slice (some ⟨w.heap.size + 1 + 1 + 1 + 1 + 1 + 1 + 1 + 1, 0, none⟩) 2 2) ∧ Below w.heap.size w W) := ⟨⟨hd, ha, hzz, hcc⟩, ho.base⟩
  have c0 := cell_of_heap k0 (i := 0)
  have c1 := cell_of_heap k0 (i := 1)
  have c2 := cell_of_heap k0 (i := 2)
  have c3 := cell_of_heap k0 (i := 3)
  have c4 := cell_of_heap k0 (i := 4)
  have c5 := cell_of_heap k0 (i := 5)
  simp only [List.getElem?_toArray, List.getElem?_cons_succ, List.getElem?_cons_zero] at c0 c1 c2 c3 c4 c5
  clear ho k0 k1 k2 k3 k4 k5 k6 k7 k8 hz hd ha hzz hca hcc
  go_enter Tryz.func25, Tryz.ntmps25
  go_wp2_with fail
  show bodyPost _ _ _ _ _ (((((((((w.alloc (.cells #[Value.slice (some ⟨w.heap.size + 1 + 1 + 1, 0, none⟩) 1 1, Value.slice (some ⟨w.heap.size + 1 + 1 + 1 + 1, 0, none⟩) 2 2, Value.slice (some ⟨w.heap.size + 1 + 1 + 1 + 1 + 1, 0, none⟩) 2 2, Value.slice (some ⟨w.heap.size + 1 + 1 + 1 + 1 + 1 + 1 + 1 + 1, 0, none⟩) 2 2, .int .i64 0, .int .i64 (d * 1440)] 30 (0, 0))).alloc (.cells #[.int .i64 0, .int .i64 0] 89 (0, 0))).alloc (.cells #[Value.slice (some ⟨w.heap.size + 1, 0, none⟩) 1 1] 66 (0, 0))).alloc (.cells #[.string (bs tVal), .int .i64 2, .int .i64 0, .int .i64 100] 91 (0, 0))).alloc (.cells #[.string (bs tEu), .string (bs tUs)] 9 (0, 0))).alloc (.cells #[Value.slice (some ⟨w.heap.size + 1, 0, none⟩) 1 1, Value.slice (some ⟨w.heap.size + 1, 0, none⟩) 1 1] 66 (0, 0))).alloc (.cells #[.int .i64 10] 3 (0, 0))).alloc (.cells #[.int .i64 10] 3 (0, 0))).alloc (.cells #[Value.slice (some ⟨w.heap.size + 1 + 1 + 1 + 1 + 1 + 1, 0, none⟩) 1 1, Value.slice (some ⟨w.heap.size + 1 + 1 + 1 + 1 + 1 + 1 + 1, 0, none⟩) 1 1] 68 (0, 0)))
  rw [← hW]
  clear hW
  refine bodyPost_ret (v := .agg #[Value.slice (some ⟨w.heap.size + 1 + 1 + 1, 0, none⟩) 1 1, Value.slice (some ⟨w.heap.size + 1 + 1 + 1 + 1, 0, none⟩) 2 2, Value.slice (some ⟨w.heap.size + 1 + 1 + 1 + 1 + 1, 0, none⟩) 2 2, Value.slice (some ⟨w.heap.size + 1 + 1 + 1 + 1 + 1 + 1 + 1 + 1, 0, none⟩) 2 2, .int .i64 0, .int .i64 (d * 1440)]) (by simp [results, Tryz.results25, go_sem, c0, c1, c2, c3, c4, c5]) rfl ?_
  exact ⟨_, _, _, _, rfl, HE.out.1, HE.out.2⟩
end Go.Proofs.YtakadfdnhlfijaaGreatDoor
namespace Go.Proofs.YtakadfdnhlfijaaGreatDoor
open Go.RowKit Go.Cz Go.Cz.Lx Go.Cz.Fo Go.Cz.Vd
open Go.Cz.Ck (Shift validB)
set_option linter.unusedSimpArgs false
set_option linter.unusedVariables false
attribute [local go_sem] bs_size bs_extract bs_append bs_toList
attribute [local irreducible] cList cPlan
theorem ex_msLen : MsLen exMs := ⟨by simp [exMs], fun m hm => by
  simp only [exMs, List.mem_cons, List.not_mem_nil, or_false] at hm
  rcases hm with rfl | rfl | rfl
  · exact ⟨⟨by simp [tM1], by simp [tEu], by simp⟩, ⟨by decide, by decide⟩⟩
  · exact ⟨⟨by simp [tX1], by simp [tEu], by simp [tM1]⟩, ⟨by decide, by decide⟩⟩
  · exact ⟨⟨by simp [tB1], by simp [tUs], by simp [tEu]⟩, ⟨by decide, by decide⟩⟩⟩
theorem ex_scLen (d : Int) : ScLen (exSc d) := ⟨⟨by simp [exSc], fun x hx => by
  simp only [exSc, List.mem_cons, List.not_mem_nil, or_false] at hx
  subst hx
  simp [tVal]⟩, fun a ha => by
  simp only [exSc, List.mem_cons, List.not_mem_nil, or_false] at ha
  rcases ha with rfl | rfl
  · simp [tEu]
  · simp [tUs], fun c hc => by
  simp only [exSc, List.mem_cons, List.not_mem_nil, or_false] at hc
  rcases hc with rfl | rfl <;> simp⟩
theorem tx_small {l : List Bytes} (h : l.length ≤ 1 ∧ ∀ x ∈ l, x.length ≤ 2) : TxLen l := ⟨by have := h.1; omega, fun x hx => by have := h.2 x hx; omega⟩
set_option maxRecDepth 100000 in
set_option maxHeartbeats 4000000 in
theorem is_c (d : Int) (h0 : 0 ≤ d) (h1 : d ≤ 1000) (cov f b : List Bytes) (k : Int) (cv fv bv : Value) (w : World) (hr : licensedV exMs (exSc d) cov = (⟨k, f, b⟩, 0)) (hc : IsTxR w cov cv) (hf : IsTxR w f fv) (hb : IsTxR w b bv) (lc : cov.length ≤ 1 ∧ ∀ x ∈ cov, x.length ≤ 2) (lf : f.length ≤ 1 ∧ ∀ x ∈ f, x.length ≤ 2) (lb : b.length ≤ 1 ∧ ∀ x ∈ b, x.length ≤ 2) :
    Calls Tryz.prog 23 #[.int .i64 d, cv, .int .i64 k, fv, bv] w fun e w' => e = .returned (.bool true) ∧ Below w.heap.size w w' := by
  have HC := Lib.hid hc
  have HF := Lib.hid hf
  have HB := Lib.hid hb
  have HLc := Lib.hid lc
  have HLf := Lib.hid lf
  have HLb := Lib.hid lb
  have HR := Lib.hid hr
  obtain ⟨y1, c1, rfl⟩ := hc.form
  obtain ⟨y2, c2, rfl⟩ := hf.form
  obtain ⟨y3, c3, rfl⟩ := hb.form
  obtain ⟨n1, hn1⟩ : ∃ n, n = cov.length := ⟨_, rfl⟩
  obtain ⟨n2, hn2⟩ : ∃ n, n = f.length := ⟨_, rfl⟩
  obtain ⟨n3, hn3⟩ : ∃ n, n = b.length := ⟨_, rfl⟩
  rw [← hn1] at HC ⊢
  rw [← hn2] at HF ⊢
  rw [← hn3] at HB ⊢
  clear hc hf hb lc lf lb hr hn1 hn2 hn3
  go_enter Tryz.func23, Tryz.ntmps23
  go_wp2_with fail
  go_at_call 24
  refine (measures_c w).mono ?_
  rintro e W1 ⟨lv, rfl, hl, hb⟩
  have HM := Lib.hid hl
  have Hb := Lib.hid hb
  obtain ⟨ly, lc, rfl⟩ := hl.form
  clear hl hb
  go_wp2_with fail
  go_at_call 25
  refine (scene_c d h0 h1 W1).mono ?_
  rintro e W2 ⟨vd, va, vz, vc, rfl, hs, hb⟩
  have HS := Lib.hid hs
  replace HM := Lib.hid (HM.out.later hb)
  replace Hb := Lib.hid (Hb.out.trans (hb.mono Hb.out.size))
  clear hs hb
  go_wp2_with fail
  go_at_call 11
  refine (licensed_c exMs (exSc d) cov _ vd va vz vc _ W2 HM.out HS.out (HC.out.later Hb.out) ex_msLen (ex_scLen d) (by simp [exSc]) (by simp [exSc]) (by simp [exSc]) (fun x hx => by have := HLc.out.2 x hx; omega) (by have := HLc.out.1; omega)).mono ?_
  rintro e W3 ⟨fv, bv, rfl, ho⟩
  rw [HR.out] at ho ⊢
  have HO := Lib.hid ho
  clear ho
  obtain ⟨gy, gc, rfl, -⟩ := HO.out.txIs
  obtain ⟨hy, hc, rfl, -⟩ := HO.out.pop.txIs
  obtain ⟨W4, hW4⟩ : ∃ W, W = W3.alloc (vobj k (.slice gy f.length gc) (.slice hy b.length hc)) := ⟨_, rfl⟩
  have HW4 : Hid (Owns W2 W4 [txP (.slice gy f.length gc) f, txP (.slice hy b.length hc) b]) := by rw [hW4]; exact Lib.hid (HO.out.alloc _)
  replace Hb : Hid (Below w.heap.size w W4) := Lib.hid (Hb.out.trans (HW4.out.base.mono Hb.out.size))
  clear HO HR HC HLc HM HS
  go_wp2_with fail
  rw [← hW4]
  clear hW4
  go_at_call 17
  refine (same_c ⟨k, f, b⟩ ⟨k, f, b⟩ _ _ _ _ W4 HW4.out.txIs HW4.out.pop.txIs (HF.out.later Hb.out) (HB.out.later Hb.out) (tx_small HLf.out) (tx_small HLb.out) (tx_small HLf.out) (tx_small HLb.out)).mono ?_
  rintro e W5 ⟨rfl, hb⟩
  replace Hb := Lib.hid (Hb.out.trans (hb.mono Hb.out.size))
  clear hb
  rw [sameV_iff.2 rfl]
  go_wp2_with fail
  go_ret
  exact ⟨rfl, Hb.out⟩
set_option maxRecDepth 100000 in
set_option maxHeartbeats 4000000 in
theorem head_c (w : World) : Calls Tryz.prog 9 #[] w fun e w' => e = .returned (.bool true) ∧ Below w.heap.size w w' := by
  obtain ⟨W1, hW1⟩ : ∃ W, W = w.alloc (.cells #[.string (bs tM1)] 9) := ⟨_, rfl⟩
  obtain ⟨g1, hg1⟩ : ∃ g, g = w.heap.size := ⟨_, rfl⟩
  have HT : Hid (IsTxR W1 [tM1] (.slice (some ⟨g1, 0, none⟩) 1 1) ∧ Below w.heap.size w W1) := by
    have h := new_heap w (.cells #[.string (bs tM1)] 9 (0, 0)) g1 hg1
    rw [← hW1] at h
    refine ⟨⟨_, 1, rfl, .inr ⟨g1, 0, rfl, lt_of_block h, Nat.le_refl _, fun j x hj => ?_⟩⟩, by rw [hW1]; exact (Below.refl _ _).alloc (Nat.le_refl _) _⟩
    rcases j with _ | j
    · obtain rfl : _ = x := by simpa using hj
      rw [cell_of_heap h]; rfl
    · simp at hj
  go_enter Tryz.func9, Tryz.ntmps9
  go_wp2_with fail
  rw [show w.alloc (.cells #[.string ⟨#[109, 49]⟩] 9 (0, 0)) = W1 from hW1.symm, ← hg1]
  clear hW1 hg1
  have l0 : ([] : List Bytes).length ≤ 1 ∧ ∀ x ∈ ([] : List Bytes), x.length ≤ 2 := ⟨by simp, by simp⟩
  have lm : [tM1].length ≤ 1 ∧ ∀ x ∈ [tM1], x.length ≤ 2 := ⟨by simp, by simp [tM1]⟩
  have lb : [tB1].length ≤ 1 ∧ ∀ x ∈ [tB1], x.length ≤ 2 := ⟨by simp, by simp [tB1]⟩
  have L0 := Lib.hid l0
  have LM := Lib.hid lm
  have LB := Lib.hid lb
  clear l0 lm lb
  go_at_call 23
  refine (is_c 1 (by omega) (by omega) [] [] [] 1 _ _ _ _ ex_licensed.1 (no_texts _) (no_texts _) (no_texts _) L0.out L0.out L0.out).mono ?_
  rintro e W2 ⟨rfl, hb⟩
  replace HT : Hid (IsTxR W2 [tM1] (.slice (some ⟨g1, 0, none⟩) 1 1) ∧ Below w.heap.size w W2) := ⟨HT.out.1.later hb, HT.out.2.trans (hb.mono HT.out.2.size)⟩
  clear hb
  go_wp2_with fail
  go_at_call 23
  refine (is_c 2 (by omega) (by omega) [] [tM1] [] 2 _ _ _ _ ex_licensed.2.1 (no_texts _) HT.out.1 (no_texts _) L0.out LM.out L0.out).mono ?_
  rintro e W3 ⟨rfl, hb⟩
  replace HT : Hid (IsTxR W3 [tM1] (.slice (some ⟨g1, 0, none⟩) 1 1) ∧ Below w.heap.size w W3) := ⟨HT.out.1.later hb, HT.out.2.trans (hb.mono HT.out.2.size)⟩
  clear hb
  obtain ⟨W4, hW4⟩ : ∃ W, W = W3.alloc (.cells #[.string (bs tB1)] 9) := ⟨_, rfl⟩
  obtain ⟨g2, hg2⟩ : ∃ g, g = W3.heap.size := ⟨_, rfl⟩
  have HT2 : Hid (IsTxR W4 [tB1] (.slice (some ⟨g2, 0, none⟩) 1 1)) := by
    have h := new_heap W3 (.cells #[.string (bs tB1)] 9 (0, 0)) g2 hg2
    rw [← hW4] at h
    refine ⟨_, 1, rfl, .inr ⟨g2, 0, rfl, lt_of_block h, Nat.le_refl _, fun j x hj => ?_⟩⟩
    rcases j with _ | j
    · obtain rfl : _ = x := by simpa using hj
      rw [cell_of_heap h]; rfl
    · simp at hj
  have hb : Below W3.heap.size W3 W4 := by rw [hW4]; exact (Below.refl _ _).alloc (Nat.le_refl _) _
  replace HT : Hid (IsTxR W4 [tM1] (.slice (some ⟨g1, 0, none⟩) 1 1) ∧ Below w.heap.size w W4) := ⟨HT.out.1.later hb, HT.out.2.trans (hb.mono HT.out.2.size)⟩
  clear hb
  go_wp2_with fail
  rw [show W3.alloc (.cells #[.string ⟨#[98, 49]⟩] 9 (0, 0)) = W4 from hW4.symm, ← hg2]
  clear hW4 hg2
  go_at_call 23
  refine (is_c 5 (by omega) (by omega) [] [tM1] [tB1] 3 _ _ _ _ ex_licensed.2.2.1 (no_texts _) HT.out.1 HT2.out L0.out LM.out LB.out).mono ?_
  rintro e W5 ⟨rfl, hb⟩
  replace HT : Hid (IsTxR W5 [tM1] (.slice (some ⟨g1, 0, none⟩) 1 1) ∧ Below w.heap.size w W5) := ⟨HT.out.1.later hb, HT.out.2.trans (hb.mono HT.out.2.size)⟩
  clear hb HT2
  go_wp2_with fail
  go_at_call 24
  refine (measures_c W5).mono ?_
  rintro e W6 ⟨lv, rfl, hl, hb⟩
  have HM := Lib.hid hl
  obtain ⟨ly, lc, rfl⟩ := hl.form
  replace HT : Hid (IsTxR W6 [tM1] (.slice (some ⟨g1, 0, none⟩) 1 1) ∧ Below w.heap.size w W6) := ⟨HT.out.1.later hb, HT.out.2.trans (hb.mono HT.out.2.size)⟩
  clear hl hb
  go_wp2_with fail
  go_at_call 25
  refine (scene_c 5 (by omega) (by omega) W6).mono ?_
  rintro e W7 ⟨vd, va, vz, vc, rfl, hs, hb⟩
  have HS := Lib.hid hs
  replace HM := Lib.hid (HM.out.later hb)
  replace HT : Hid (IsTxR W7 [tM1] (.slice (some ⟨g1, 0, none⟩) 1 1) ∧ Below w.heap.size w W7) := ⟨HT.out.1.later hb, HT.out.2.trans (hb.mono HT.out.2.size)⟩
  clear hs hb
  go_wp2_with fail
  go_at_call 13
  refine (decide_c exMs (exSc 5) _ vd va vz vc W7 HM.out HS.out ex_msLen (ex_scLen 5) (by simp [exSc]) (by simp [exSc]) (by simp [exSc])).mono ?_
  rintro e W8 ⟨fv, bv, rfl, ho⟩
  rw [show decideV exMs (exSc 5) = _ from ex_licensed.2.2.1] at ho ⊢
  have HO := Lib.hid ho
  replace HT : Hid (IsTxR W8 [tM1] (.slice (some ⟨g1, 0, none⟩) 1 1) ∧ Below w.heap.size w W8) := ⟨HT.out.1.later ho.base, HT.out.2.trans (ho.base.mono HT.out.2.size)⟩
  clear ho HM HS
  obtain ⟨gy, gc, rfl, -⟩ := HO.out.txIs
  obtain ⟨hy, hc, rfl, -⟩ := HO.out.pop.txIs
  obtain ⟨W9, hW9⟩ : ∃ W, W = W8.alloc (vobj 3 (.slice gy 1 gc) (.slice hy 1 hc)) := ⟨_, rfl⟩
  obtain ⟨b3, hb3⟩ : ∃ b, b = W8.heap.size := ⟨_, rfl⟩
  have HB3 : Hid (W9.heap[b3]? = some (vobj 3 (.slice gy 1 gc) (.slice hy 1 hc))) := by rw [hW9]; exact Lib.hid (new_heap W8 _ b3 hb3)
  have hb : Below W8.heap.size W8 W9 := by rw [hW9]; exact (Below.refl _ _).alloc (Nat.le_refl _) _
  replace HT : Hid (IsTxR W9 [tM1] (.slice (some ⟨g1, 0, none⟩) 1 1) ∧ Below w.heap.size w W9) := ⟨HT.out.1.later hb, HT.out.2.trans (hb.mono HT.out.2.size)⟩
  clear HO hb
  go_wp2_with fail
  rw [← hW9, ← hb3]
  clear hW9 hb3
  go_at_call 23
  refine (is_c 5 (by omega) (by omega) [tM1] [tM1] [] 4 _ _ _ _ ex_licensed.2.2.2.1 HT.out.1 HT.out.1 (no_texts _) LM.out LM.out L0.out).mono ?_
  rintro e W10 ⟨rfl, hb⟩
  replace HT : Hid (Below w.heap.size w W10) := HT.out.2.trans (hb.mono HT.out.2.size)
  replace HB3 : Hid (W10.heap[b3]? = some (vobj 3 (.slice gy 1 gc) (.slice hy 1 hc))) := Lib.hid ((hb.block b3 (lt_of_block HB3.out)).trans HB3.out)
  clear hb
  go_wp2_with fail
  go_at_call 23
  refine (is_c 8 (by omega) (by omega) [] [] [] 1 _ _ _ _ ex_licensed.2.2.2.2 (no_texts _) (no_texts _) (no_texts _) L0.out L0.out L0.out).mono ?_
  rintro e W11 ⟨rfl, hb⟩
  replace HT : Hid (Below w.heap.size w W11) := HT.out.trans (hb.mono HT.out.size)
  replace HB3 : Hid (W11.heap[b3]? = some (vobj 3 (.slice gy 1 gc) (.slice hy 1 hc))) := Lib.hid ((hb.block b3 (lt_of_block HB3.out)).trans HB3.out)
  clear hb
  have h3 := lt_of_block HB3.out
  have c3 : W11.cell? ⟨b3, 0, none⟩ = some (.int .i64 3) := by rw [cell_of_heap HB3.out]; rfl
  go_wp2_with fail
  clear h3 c3 HB3
  go_at_call 25
  refine (scene_c 3 (by omega) (by omega) W11).mono ?_
  rintro e W12 ⟨vd, va, vz, vc, rfl, hs, hb⟩
  have HS := Lib.hid hs
  replace HT : Hid (Below w.heap.size w W12) := HT.out.trans (hb.mono HT.out.size)
  clear hs hb
  go_wp2_with fail
  go_at_call 15
  refine (proper_c (exSc 3) vd va vz vc W12 HS.out (ex_scLen 3) (by simp [exSc]) (by simp [exSc]) (by simp [exSc])).mono ?_
  rintro e W13 ⟨rfl, hb⟩
  replace HT : Hid (Below w.heap.size w W13) := HT.out.trans (hb.mono HT.out.size)
  clear hb
  rw [ex_proper]
  go_wp2_with fail
  go_ret
  exact ⟨rfl, HT.out⟩
end Go.Proofs.YtakadfdnhlfijaaGreatDoor
namespace Go.Cz.Vd
open Go.Cz.Lx Go.Cz.Fo
theorem mem_left {s : Sc} {l : List Me} {cov : List Bytes} {m : Me} (h : m ∈ leftM s l cov) : m ∈ forbs s l := (List.mem_filter.1 h).1
theorem mem_blocks {s : Sc} {l : List Me} {cov : List Bytes} {m : Me} (h : m ∈ blocksM s l cov) : m ∈ l := (mem_counting.1 (List.mem_filter.1 h).1).1
end Go.Cz.Vd
namespace Go.Proofs.YtakadfdnhlfijaaGreatDoor
open Go.RowKit Go.Cz Go.Cz.Lx Go.Cz.Fo Go.Cz.Vd
set_option linter.unusedSimpArgs false
set_option linter.unusedVariables false
structure MeIn (w : World) (l : List Me) (v : Value) : Prop where
  row : IsMeR w l v
  len : l.length ≤ 9223372036854775807
  each : ∀ m ∈ l, m.id.length ≤ 140737488355328 ∧ m.auth.length ≤ 140737488355328 ∧ m.target.length ≤ 140737488355328 ∧ short 140737488355328 m.cond = true
structure ScIn (w : World) (s : Sc) (vd va vz vc : Value) : Prop where
  sc : IsSc w s vd va vz vc
  dom : s.dom.length ≤ 9223372036854775807
  names : ∀ f ∈ s.dom, f.name.length ≤ 140737488355328
  auths : s.auths.length ≤ 9223372036854775807
  texts : ∀ a ∈ s.auths, a.length ≤ 140737488355328
  zones : s.zones.length ≤ 9223372036854775807
  cases : s.cases.length ≤ 9223372036854775807
structure TxIn (w : World) (l : List Bytes) (v : Value) : Prop where
  row : IsTxR w l v
  len : l.length ≤ 9223372036854775807
  each : ∀ a ∈ l, a.length ≤ 140737488355328
/-- What is known of few measures in a small scene. -/
structure FewIn (l : List Me) (s : Sc) : Prop where
  ms : MsLen l
  ms8 : l.length ≤ 8
  sc : ScLen s
  a : s.auths.length ≤ 1000000
  z : s.zones.length ≤ 1000000
  c : s.cases.length ≤ 1000000
theorem few_in {w : World} {l : List Me} {s : Sc} {v vd va vz vc : Value} (hf : fewV l s = true) (hl : MeIn w l v) (hs : ScIn w s vd va vz vc) : FewIn l s := by
  obtain ⟨⟨h1, h2⟩, h3, h4, h5, h6, h7⟩ := fewV_parts hf
  refine ⟨⟨by omega, fun m hm => ?_⟩, h1, ⟨⟨by omega, hs.names⟩, hs.texts, fun c hc => by have := h7 c hc; omega⟩, by omega, by omega, by omega⟩
  obtain ⟨k1, k2, k3, k4⟩ := h2 m hm
  exact ⟨⟨by omega, by omega, by omega⟩, ⟨(hl.each m hm).2.2.2, by omega⟩⟩
theorem few_c2 {w : World} {l : List Me} {s : Sc} {v vd va vz vc : Value} (hl : MeIn w l v) (hs : ScIn w s vd va vz vc) (W : World) (hb : Below w.heap.size w W) :
    Calls Tryz.prog 10 #[v, sval s vd va vz vc] W fun e w' => e = .returned (.bool (fewV l s)) ∧ Below W.heap.size W w' :=
  fewV_c l s v vd va vz vc W (hl.row.later hb) (hs.sc.later hb) hl.len (fun m hm => ⟨(hl.each m hm).1, (hl.each m hm).2.1, (hl.each m hm).2.2.1⟩) hs.dom hs.auths hs.zones hs.cases
theorem ids_tx {l L : List Me} (hm : MsLen l) (hl : L.length ≤ l.length) (h : ∀ m ∈ L, m ∈ l) : TxLen (L.map Me.id) :=
  ⟨by rw [List.length_map]; have := hm.len; omega, fun x hx => by
    obtain ⟨m, h1, rfl⟩ := List.mem_map.1 hx
    exact (hm.each m (h m h1)).1.id⟩
theorem no_tx : TxLen [] := ⟨by simp, by simp⟩
theorem forbs_len (s : Sc) (l : List Me) : (forbs s l).length ≤ l.length := Nat.le_trans (List.length_filter_le _ _) (List.length_filter_le _ _)
theorem ve_tx {l : List Me} {s : Sc} {cov : List Bytes} (hm : MsLen l) : TxLen (licensedV l s cov).1.forbids ∧ TxLen (licensedV l s cov).1.blocks := by
  have h1 : TxLen ((forbs s l).map Me.id) := ids_tx hm (forbs_len s l) fun m h => (mem_forbs.1 h).1
  have h2 : TxLen ((leftM s l cov).map Me.id) := ids_tx hm (Nat.le_trans (List.length_filter_le _ _) (forbs_len s l)) fun m h => (mem_forbs.1 (Go.Cz.Vd.mem_left h)).1
  have h3 : TxLen ((blocksM s l cov).map Me.id) := ids_tx hm (Nat.le_trans (List.length_filter_le _ _) (List.length_filter_le _ _)) fun m h => mem_blocks h
  unfold licensedV verdictOf
  split
  · exact ⟨no_tx, no_tx⟩
  · split
    · exact ⟨no_tx, no_tx⟩
    · split
      · exact ⟨h1, no_tx⟩
      · split
        · exact ⟨h2, no_tx⟩
        · exact ⟨h2, h3⟩
theorem TxLen.rev {l : List Bytes} (h : TxLen l) : TxLen l.reverse := ⟨by rw [List.length_reverse]; exact h.len, fun x hx => h.each x (List.mem_reverse.1 hx)⟩
theorem Owns.meIs {w0 w : World} {ps : List Piece} {v : Value} {L : List (Me × Value)} (h : Owns w0 w (meP v L :: ps)) (hf : ∀ p ∈ L, IsFm (fun _ => True) w p.1.cond p.2) : IsMeR w (L.map Prod.fst) v := by
  obtain ⟨S, ⟨hr, rfl⟩, h2⟩ := h.first
  exact me_of_row (V := w0) ⟨hr, fun k hk => h2 k (by rw [hk]; simp), h.base⟩ hf
theorem Owns.meRow {w0 w : World} {ps : List Piece} {v : Value} {L : List (Me × Value)} (h : Owns w0 w (meP v L :: ps)) : w.ownsRow 0 46 12 v L.length (L.flatMap mcl) := by
  obtain ⟨S, ⟨hr, rfl⟩, h2⟩ := h.first
  exact hr
theorem Owns.meNew {w0 w : World} {ps : List Piece} (h : Owns w0 w ps) : Owns w0 w (meP (.slice none 0 0) [] :: ps) :=
  h.push (Q := meP (.slice none 0 0) []) (S := []) ⟨⟨by simp, .inl ⟨rfl, rfl⟩⟩, rfl⟩ (Below.refl _ _) (by simp)
theorem Owns.meGrew {w0 w w' : World} {ps : List Piece} {v v' : Value} {L L' : List (Me × Value)} (h : Owns w0 w (meP v L :: ps)) (hr : w'.ownsRow 0 46 12 v' L'.length (L'.flatMap mcl)) (hg : w.grownBy w' v.ownBlock) (hb : v'.ownBlock = v.ownBlock ∨ v'.ownBlock = some w.heap.size) : Owns w0 w' (meP v' L' :: ps) := by
  obtain ⟨S, ⟨h1, rfl⟩, -, hf⟩ := h.open
  refine hf w' _ v'.ownBlock.toList ⟨hr, rfl⟩ ⟨hg.os, hg.tape, hg.output, hg.size, fun k hk hn => hg.block k hk fun e => hn (by rw [← e]; simp)⟩ fun k hk => ?_
  rcases hb with hb | hb
  · exact .inl (by rw [← hb]; exact hk)
  · rw [hb] at hk
    simp at hk
    exact .inr (by omega)
end Go.Proofs.YtakadfdnhlfijaaGreatDoor
