/-
  Sizes; what counts; what is small.
-/
import Derived.Test.YtakadfdnhlfijaaGreatDoorVdAux
namespace Go.Cz.Vd
open Go.Cz.Lx Go.Cz.Fo
open Go.Cz.Ck (Shift validB)
/-- A measure is of a moderate size. -/
def meFewB (m : Me) : Bool := decide (m.id.length ≤ 60) && (decide (m.auth.length ≤ 60) && (decide (m.target.length ≤ 60) && decide (size m.cond ≤ 60)))
def idxI (a : Bytes) (l : List Bytes) : Int := match idxA a l with | some i => (i : Int) | none => -1
def meFew (n : Nat) (l : List Me) : Bool := decide (l.length ≤ n) && l.all meFewB
def scFew (s : Sc) : Bool := decide (s.dom.length ≤ 20) && (decide (s.auths.length ≤ 8) && (decide (s.zones.length ≤ 8) && (decide (s.cases.length ≤ 8) && (s.zones.all (fun z => decide (z.length ≤ 20)) && s.cases.all (fun c => decide (c.length ≤ 30))))))
def fewV (l : List Me) (s : Sc) : Bool := meFew 8 l && scFew s
theorem fewV_parts {l : List Me} {s : Sc} (h : fewV l s = true) : (l.length ≤ 8 ∧ ∀ m ∈ l, m.id.length ≤ 60 ∧ m.auth.length ≤ 60 ∧ m.target.length ≤ 60 ∧ size m.cond ≤ 60) ∧ s.dom.length ≤ 20 ∧ s.auths.length ≤ 8 ∧ s.zones.length ≤ 8 ∧ s.cases.length ≤ 8 ∧ ∀ c ∈ s.cases, c.length ≤ 30 := by
  unfold fewV meFew scFew at h
  simp only [Bool.and_eq_true, decide_eq_true_eq, List.all_eq_true] at h
  refine ⟨⟨h.1.1, fun m hm => ?_⟩, h.2.1, h.2.2.1, h.2.2.2.1, h.2.2.2.2.1, h.2.2.2.2.2.2⟩
  have := h.1.2 m hm
  unfold meFewB at this
  simpa only [Bool.and_eq_true, decide_eq_true_eq] using this
end Go.Cz.Vd
namespace Go.Proofs.YtakadfdnhlfijaaGreatDoor
open Go.RowKit Go.Cz Go.Cz.Lx Go.Cz.Fo Go.Cz.Vd
open Go.Cz.Ck (Shift validB)
open Go.Cz.Wn (Ms datedB appliesF)
set_option linter.unusedSimpArgs false
set_option linter.unusedVariables false
attribute [local go_sem] bs_size bs_extract bs_append bs_toList
attribute [local irreducible] cList cPlan
section
variable {p : Nat → Prop}
set_option maxHeartbeats 2000000 in
theorem count26_c (f : Fm) : ∀ (w : World) (kv : Value) (t : Nat), IsFm p w f kv → t ≤ 100000 →
    Calls Tryz.prog 76 #[fval f kv, .int .i64 (t : Int)] w (fun e w' => e = .returned (.int .i64 (min (size f) (t + 1) : Nat)) ∧ Below w.heap.size w w') := by
  refine Fm.induct (P := fun f => ∀ (w : World) (kv : Value) (t : Nat), IsFm p w f kv → t ≤ 100000 →
    Calls Tryz.prog 76 #[fval f kv, .int .i64 (t : Int)] w (fun e w' => e = .returned (.int .i64 (min (size f) (t + 1) : Nat)) ∧ Below w.heap.size w w')) ?_ f
  clear f
  intro f ih w kv t hf ht
  have HI := Lib.hid ih
  obtain ⟨y, m, rfl⟩ := hf.form
  obtain ⟨N, hN⟩ : ∃ N, N = f.kids.length := ⟨_, rfl⟩
  have HN := Lib.hid hN
  rw [← hN] at hf ⊢
  have HF := Lib.hid hf
  clear hN hf
  obtain ⟨W1, hW1⟩ : ∃ W1, W1 = w.alloc (fobj f (.slice y N m)) := ⟨_, rfl⟩
  obtain ⟨bf, hbf⟩ : ∃ bf, bf = w.heap.size := ⟨_, rfl⟩
  have HO : Hid (Owns w W1 [blk bf (fobj f (.slice y N m))]) := by
    rw [hW1, hbf]
    exact Lib.hid ((Owns.start w).box _)
  go_enter Tryz.func76, Tryz.ntmps76
  go_wp2_with fail
  rw [← hW1, ← hbf]
  clear hW1 hbf
  clear ih
  have h0 : min (1 + sizes (f.kids.take 0)) (t + 1) = 1 := by simp [sizes]
  have H0 := Lib.hid h0
  clear h0
  go_loopg [5, 6] N (fun gk a i wr => ∃ k c : Nat, gk = N - k ∧ k ≤ N ∧ i = .int .i64 (k : Int) ∧ a = .int .i64 (c : Int) ∧ c ≤ t + 1 ∧ Hid (min (1 + sizes (f.kids.take k)) (t + 1) = c) ∧ Hid (Owns w wr [blk bf (fobj f (.slice y N m))]))
  case atStart => exact ⟨0, 1, rfl, Nat.zero_le _, rfl, rfl, by omega, H0, HO⟩
  case round =>
    rename_i J1 K1 hJ1 hK1
    clear HO H0
    obtain ⟨k, c, rfl, hk, rfl, rfl, hc, HC, HO⟩ := hrel
    obtain ⟨bk, -⟩ := HO.out.blk
    have hbf := lt_of_block bk
    have cb4 := cell_of_heap bk (i := 4)
    simp only [List.getElem?_toArray, List.getElem?_cons_succ, List.getElem?_cons_zero] at cb4
    by_cases hlt : k < N
    · by_cases hct : c ≤ t
      · have hct' : (c : Int) ≤ (t : Int) := by omega
        obtain ⟨q, hq⟩ : ∃ q, f.kids[k]? = some q := ⟨_, List.getElem?_eq_getElem (by rw [← HN.out]; exact hlt)⟩
        obtain ⟨g, off, kv, rfl, hg, hkv, c0, c1, c2, c3, c4⟩ := HF.out.old HO.out.base hq
        obtain ⟨y2, m2, rfl⟩ := hkv.form
        have HQ := Lib.hid hq
        have HK := Lib.hid hkv
        clear hq hkv
        obtain ⟨N2, hN2⟩ : ∃ N2, N2 = q.kids.length := ⟨_, rfl⟩
        rw [← hN2] at c4 HK
        clear hN2
        have HLt := Lib.hid hlt
        obtain ⟨r, hr⟩ : ∃ r, r = t - c := ⟨_, rfl⟩
        have er : (t : Int) - (c : Int) = (r : Int) := by omega
        have HR := Lib.hid hr
        clear hr
        have hk9 : k ≤ 100000 := by have := length_sizes (f.kids.take k); rw [List.length_take] at this; have := HC.out; have := HN.out; omega
        go_wp2_with fail
        refine (HI.out q (List.mem_of_getElem? HQ.out) wr _ r (HK.out.later HO.out.base) (by omega)).mono ?_
        rintro e W2 ⟨rfl, hb⟩
        have HO2 := Lib.hid (HO.out.below hb)
        obtain ⟨x, hx⟩ : ∃ x, x = min (size q) (r + 1) := ⟨_, rfl⟩
        rw [← hx]
        have HX := Lib.hid hx
        obtain ⟨c', hc'⟩ : ∃ c', c' = c + x := ⟨_, rfl⟩
        have ec : (c : Int) + (x : Int) = (c' : Int) := by omega
        have hc9 : c' ≤ t + 1 := by have := HR.out; omega
        have HC2 : Hid (min (1 + sizes (f.kids.take (k + 1))) (t + 1) = c') := by
          show _ = _
          rw [sizes_take HQ.out]
          have := HC.out
          have := HR.out
          omega
        clear hx hc' hb HO HC c0 c1 c2 c3 c4 bk cb4 hbf
        go_wp2_with fail
        go_roundg (N - (k + 1))
        case measure => omega
        case rel => exact ⟨k + 1, c', rfl, by omega, by go_num, rfl, hc9, HC2, HO2⟩
      · have hct' : ¬ (c : Int) ≤ (t : Int) := by omega
        have HE : Hid (min (size f) (t + 1) = c) := by
          show _ = _
          rw [size_kids]
          have := HC.out
          have := sizes_le f.kids k
          omega
        clear hJ1 hK1 hct
        go_wp2_with fail
        go_ret
        exact ⟨by rw [HE.out]; rfl, HO.out.base⟩
    · obtain rfl : k = N := by omega
      have HE : Hid (min (size f) (t + 1) = c) := by
        show _ = _
        rw [size_kids]
        have h1 := HC.out
        rw [HN.out, List.take_length] at h1
        omega
      clear hJ1 hK1 hlt
      go_wp2_with fail
      go_ret
      exact ⟨by rw [HE.out]; rfl, HO.out.base⟩
theorem Small26_c (f : Fm) (w : World) (kv : Value) (t : Nat) (hf : IsFm p w f kv) (ht : t ≤ 100000) : Calls Tryz.prog 53 #[fval f kv, .int .i64 (t : Int)] w (fun e w' => e = .returned (.bool (decide (size f ≤ t))) ∧ Below w.heap.size w w') := by
  obtain ⟨y, m, rfl⟩ := hf.form
  obtain ⟨N, hN⟩ : ∃ N, N = f.kids.length := ⟨_, rfl⟩
  have HN := Lib.hid hN
  rw [← hN] at hf ⊢
  have HF := Lib.hid hf
  clear hN hf
  obtain ⟨W1, hW1⟩ : ∃ W1, W1 = w.alloc (fobj f (.slice y N m)) := ⟨_, rfl⟩
  obtain ⟨bf, hbf⟩ : ∃ bf, bf = w.heap.size := ⟨_, rfl⟩
  have HO : Hid (Owns w W1 [blk bf (fobj f (.slice y N m))]) := by
    rw [hW1, hbf]
    exact Lib.hid ((Owns.start w).box _)
  go_enter Tryz.func53, Tryz.ntmps53
  go_wp2_with fail
  rw [← hW1]
  clear hW1 hbf
  go_at_call 76
  refine (count26_c f W1 _ t (HF.out.later HO.out.base) ht).mono ?_
  rintro e W2 ⟨rfl, hb⟩
  have HB := Lib.hid (HO.out.base.trans (hb.mono HO.out.base.size))
  obtain ⟨c, hc⟩ : ∃ c, c = min (size f) (t + 1) := ⟨_, rfl⟩
  rw [← hc]
  have HC := Lib.hid hc
  clear hb HO hc
  go_wp2_with fail
  go_ret
  exact ⟨congrArg (fun b => Ending.returned (Value.bool b)) (show decide (c ≤ t) = decide (size f ≤ t) from decide_eq_decide.2 (by have := HC.out; omega)), HB.out⟩
end
set_option maxHeartbeats 2000000 in
/-- Where an authority stands. -/
theorem index_c (s : Sc) (a : Bytes) (vd va vz vc : Value) (w : World) (hs : IsSc w s vd va vz vc) (h9 : s.auths.length ≤ 9223372036854775806) :
    Calls Tryz.prog 46 #[sval s vd va vz vc, .string (bs a)] w fun e w' => e = .returned (.int .i64 (idxI a s.auths)) ∧ Below w.heap.size w w' := by
  obtain ⟨yd, md, rfl⟩ := hs.dom.form
  obtain ⟨ya, ma, rfl⟩ := hs.auths.form
  obtain ⟨yz, mz, rfl⟩ := hs.zones.form
  obtain ⟨yc, mc, rfl⟩ := hs.cases.form
  obtain ⟨ND, hND⟩ : ∃ n, n = s.dom.length := ⟨_, rfl⟩
  obtain ⟨NA, hNA⟩ : ∃ n, n = s.auths.length := ⟨_, rfl⟩
  obtain ⟨NZ, hNZ⟩ : ∃ n, n = s.zones.length := ⟨_, rfl⟩
  obtain ⟨NC, hNC⟩ : ∃ n, n = s.cases.length := ⟨_, rfl⟩
  rw [← hND, ← hNA, ← hNZ, ← hNC] at hs
  have HND := Lib.hid hND
  have HNA := Lib.hid hNA
  have HNZ := Lib.hid hNZ
  have HNC := Lib.hid hNC
  have HS := Lib.hid hs
  clear hs
  rw [← hNA] at h9
  rw [← hND, ← hNA, ← hNZ, ← hNC]
  clear hND hNA hNZ hNC
  obtain ⟨W1, hW1⟩ : ∃ W1, W1 = w.alloc (sobj s (.slice yd ND md) (.slice ya NA ma) (.slice yz NZ mz) (.slice yc NC mc)) := ⟨_, rfl⟩
  obtain ⟨bx, hbx⟩ : ∃ b, b = w.heap.size := ⟨_, rfl⟩
  have HO : Hid (Owns w W1 [blk bx (sobj s (.slice yd ND md) (.slice ya NA ma) (.slice yz NZ mz) (.slice yc NC mc))]) := by
    rw [hW1, hbx]
    exact Lib.hid ((Owns.start w).box _)
  go_enter Tryz.func46, Tryz.ntmps46
  go_wp2_with fail
  rw [← hW1, ← hbx]
  clear hW1 hbx
  have HT : Hid (idxA a (s.auths.take 0) = none) := Lib.hid rfl
  obtain ⟨bk, -⟩ := HO.out.blk
  have hbx := lt_of_block bk
  have x0 := cell_of_heap bk (i := 0)
  have x1 := cell_of_heap bk (i := 1)
  have x2 := cell_of_heap bk (i := 2)
  have x3 := cell_of_heap bk (i := 3)
  have x4 := cell_of_heap bk (i := 4)
  have x5 := cell_of_heap bk (i := 5)
  simp only [List.getElem?_toArray, List.getElem?_cons_succ, List.getElem?_cons_zero] at x0 x1 x2 x3 x4 x5
  clear bk
  go_loopg [5] NA (fun gk i wr => ∃ k : Nat, gk = NA - k ∧ k ≤ NA ∧ wr = W1 ∧ i = .int .i64 (k : Int) ∧ Hid (idxA a (s.auths.take k) = none))
  case atStart => exact ⟨0, rfl, Nat.zero_le _, rfl, rfl, HT⟩
  case round =>
    rename_i J1 K1 hJ1 hK1
    clear HT
    obtain ⟨k, rfl, hk, rfl, rfl, HT⟩ := hrel
    by_cases hlt : k < NA
    · obtain ⟨x, hx⟩ : ∃ x, s.auths[k]? = some x := ⟨_, List.getElem?_eq_getElem (by rw [← HNA.out]; exact hlt)⟩
      obtain ⟨g, off, rfl, hg, cx⟩ := HS.out.auths.get HO.out.base hx
      have HX := Lib.hid hx
      clear hx
      have HN1 : Hid (idxA a (s.auths.take (k + 1)) = if x = a then some k else none) := by
        show _ = _
        have hlen : (s.auths.take k).length = k := by rw [List.length_take, ← HNA.out]; omega
        rw [List.take_add_one, HX.out, idxA_append, HT.out, hlen]
        simp only [Option.toList_some, idxA]
        by_cases h : x = a <;> simp [h]
      by_cases hxz : x = a
      · have h2 : (x == a) = true := by simpa using hxz
        have HE : Hid (idxA a s.auths = some k) := by
          show _ = _
          rw [← List.take_append_drop (k + 1) s.auths, idxA_append, HN1.out, if_pos hxz]
        clear hxz hJ1 hK1
        go_wp2_with fail
        go_ret
        exact ⟨by unfold idxI; rw [HE.out]; rfl, HO.out.base⟩
      have h2 : (x == a) = false := by simpa using hxz
      have HT2 : Hid (idxA a (s.auths.take (k + 1)) = none) := by
        show _ = _
        rw [HN1.out, if_neg hxz]
      clear hxz HN1
      go_wp2_with fail
      clear h2 hg cx HX
      go_roundg (NA - (k + 1))
      case measure => omega
      case rel => exact ⟨k + 1, rfl, by omega, rfl, by go_num, HT2⟩
    · obtain rfl : k = NA := by omega
      have HE : Hid (idxA a s.auths = none) := by
        show _ = _
        have := HT.out
        rw [HNA.out, List.take_length] at this
        exact this
      clear hJ1 hK1 hlt
      go_wp2_with fail
      go_ret
      exact ⟨by unfold idxI; rw [HE.out]; rfl, HO.out.base⟩
set_option maxRecDepth 100000 in
set_option maxHeartbeats 4000000 in
/-- A measure counts. -/
theorem counts_c (m : Me) (kv : Value) (s : Sc) (vd va vz vc : Value) (w : World) (hf : IsFm (fun _ => True) w m.cond kv) (hm : MeLen m) (hc : CoLen m.cond) (hs : IsSc w s vd va vz vc) (hl : ScLen s) (hp : properB s = true) :
    Calls Tryz.prog 18 #[mval m kv, sval s vd va vz vc] w fun e w' => e = .returned (.bool (countsB s m)) ∧ Below w.heap.size w w' := by
  have HP := Lib.hid (proper_parts hp)
  have HL := Lib.hid hl
  have HMC := Lib.hid hc
  have hA6 : s.auths.length ≤ 6 := HP.out.2.2.1
  have HIx := Lib.hid fun (W : World) (hb : Below w.heap.size w W) => index_c s m.auth vd va vz vc W (hs.later hb) (by omega)
  clear hl hp hc hm hA6
  obtain ⟨yd, md, rfl⟩ := hs.dom.form
  obtain ⟨ya, ma, rfl⟩ := hs.auths.form
  obtain ⟨yz, mz, rfl⟩ := hs.zones.form
  obtain ⟨yc, mc, rfl⟩ := hs.cases.form
  obtain ⟨ND, hND⟩ : ∃ n, n = s.dom.length := ⟨_, rfl⟩
  obtain ⟨NA, hNA⟩ : ∃ n, n = s.auths.length := ⟨_, rfl⟩
  obtain ⟨NZ, hNZ⟩ : ∃ n, n = s.zones.length := ⟨_, rfl⟩
  obtain ⟨NC, hNC⟩ : ∃ n, n = s.cases.length := ⟨_, rfl⟩
  rw [← hND, ← hNA, ← hNZ, ← hNC] at hs
  have HND := Lib.hid hND
  have HNA := Lib.hid hNA
  have HNZ := Lib.hid hNZ
  have HNC := Lib.hid hNC
  have HS := Lib.hid hs
  clear hs
  rw [← hND, ← hNA, ← hNZ, ← hNC] at HIx ⊢
  clear hND hNA hNZ hNC
  obtain ⟨y2, m2, rfl⟩ := hf.form
  obtain ⟨n2, hn2⟩ : ∃ n, n = m.cond.kids.length := ⟨_, rfl⟩
  rw [← hn2] at hf ⊢
  have HFm := Lib.hid hf
  clear hf hn2
  obtain ⟨o, ho⟩ : ∃ o, o = sobj s (.slice yd ND md) (.slice ya NA ma) (.slice yz NZ mz) (.slice yc NC mc) := ⟨_, rfl⟩
  obtain ⟨W1, hW1⟩ : ∃ W1, W1 = (w.alloc (mobj m (.slice y2 n2 m2))).alloc (sobj s (.slice yd ND md) (.slice ya NA ma) (.slice yz NZ mz) (.slice yc NC mc)) := ⟨_, rfl⟩
  obtain ⟨b8, hb8⟩ : ∃ b, b = w.heap.size := ⟨_, rfl⟩
  obtain ⟨bx, hbx⟩ : ∃ b, b = b8 + 1 := ⟨_, rfl⟩
  have HO : Hid (Owns w W1 [blk bx (sobj s (.slice yd ND md) (.slice ya NA ma) (.slice yz NZ mz) (.slice yc NC mc)), blk b8 (mobj m (.slice y2 n2 m2))]) := by
    rw [hW1, hbx, hb8]
    have := ((Owns.start w).box (mobj m (.slice y2 n2 m2))).box (sobj s (.slice yd ND md) (.slice ya NA ma) (.slice yz NZ mz) (.slice yc NC mc))
    rw [World.size_alloc] at this
    exact Lib.hid this
  go_enter Tryz.func18, Tryz.ntmps18
  go_wp2_with fail
  rw [← hW1, ← hb8, ← hbx]
  clear hW1 hb8 hbx
  go_at_call 46
  refine (HIx.out W1 HO.out.base).mono ?_
  rintro e W2 ⟨rfl, hb⟩
  replace HO := Lib.hid (HO.out.below hb)
  clear hb HIx
  go_wp2_with fail
  refine wp_region_can [27, 39] (List.range 42) (by decide +kernel) (by decide +kernel) ?_
  replace HO := Lib.hid HO.out.drew
  obtain ⟨W3, hW3⟩ : ∃ W, W = W2.drew := ⟨_, rfl⟩
  rw [← hW3] at HO ⊢
  clear hW3
  cases hi : idxA m.auth s.auths with
  | none =>
    have hidx : idxI m.auth s.auths = -1 := by unfold idxI; rw [hi]
    rw [hidx]
    have HI := Lib.hid hi
    clear hidx hi
    have HE : Hid (countsB s m = false) := by
      show _ = _
      unfold countsB; rw [HI.out]
    iterate 42 (first | (refine cl_do rfl rfl rfl rfl (fun _ _ => ?_); go_wp2_with fail) | (refine cl_yes rfl rfl rfl rfl (by first | rfl | simp [okB, lenV, plainV, Act.eval]) (fun _ _ => ?_); go_wp2_with fail) | (refine cl_no rfl rfl rfl ?_; go_simp))
    refine cl_nil ?_
    go_wp2_with fail
    go_ret
    exact ⟨by rw [HE.out]; rfl, HO.out.base⟩
  | some i0 =>
    have hidx : idxI m.auth s.auths = (i0 : Int) := by unfold idxI; rw [hi]
    rw [hidx]
    have HI := Lib.hid hi
    have hil : i0 < s.auths.length := (List.getElem?_eq_some_iff.1 (idxA_some hi)).1
    clear hidx hi
    obtain ⟨z, hz⟩ : ∃ x, s.zones[i0]? = some x := ⟨_, List.getElem?_eq_getElem (by rw [HP.out.1]; exact hil)⟩
    obtain ⟨cs, hc⟩ : ∃ x, s.cases[i0]? = some x := ⟨_, List.getElem?_eq_getElem (by rw [HP.out.2.1]; exact hil)⟩
    have hiz : i0 < NZ := by rw [HNZ.out, HP.out.1]; exact hil
    have hic : i0 < NC := by rw [HNC.out, HP.out.2.1]; exact hil
    have HZ := Lib.hid hz
    have HC := Lib.hid hc
    have HCn : Hid (cs.length ≤ 1000000) := Lib.hid (HL.out.cases cs (List.mem_of_getElem? hc))
    have HCB : Hid (countsB s m = (appliesF z m.kind m.fr m.un m.wi s.signed s.now && holdsF s.dom cs m.cond)) := by
      show _ = _
      unfold countsB
      rw [HI.out]
      simp [List.getD_eq_getElem?_getD, HZ.out, HC.out]
    clear hz hc hil
    obtain ⟨g2, off2, zx, zc, rfl, hg2, cz, hz⟩ := HS.out.zones.get HO.out.base HZ.out
    obtain ⟨g3, off3, cu, rfl, -, -, -⟩ := HS.out.cases.get HO.out.base HC.out
    obtain ⟨bk, -⟩ := HO.out.blk
    have hbx := lt_of_block bk
    have x0 := cell_of_heap bk (i := 0)
    have x1 := cell_of_heap bk (i := 1)
    have x2 := cell_of_heap bk (i := 2)
    have x3 := cell_of_heap bk (i := 3)
    have x4 := cell_of_heap bk (i := 4)
    have x5 := cell_of_heap bk (i := 5)
    simp only [List.getElem?_toArray, List.getElem?_cons_succ, List.getElem?_cons_zero] at x0 x1 x2 x3 x4 x5
    clear bk
    obtain ⟨bk, -⟩ := HO.out.pop.blk
    have h8 := lt_of_block bk
    have d0 := cell_of_heap bk (i := 0)
    have d1 := cell_of_heap bk (i := 1)
    have d2 := cell_of_heap bk (i := 2)
    have d3 := cell_of_heap bk (i := 3)
    have d4 := cell_of_heap bk (i := 4)
    have d5 := cell_of_heap bk (i := 5)
    have d6 := cell_of_heap bk (i := 6)
    have d7 := cell_of_heap bk (i := 7)
    have d8 := cell_of_heap bk (i := 8)
    have d9 := cell_of_heap bk (i := 9)
    have d10 := cell_of_heap bk (i := 10)
    have d11 := cell_of_heap bk (i := 11)
    simp only [List.getElem?_toArray, List.getElem?_cons_succ, List.getElem?_cons_zero] at d0 d1 d2 d3 d4 d5 d6 d7 d8 d9 d10 d11
    clear bk
    have i0n : (0 : Int) ≤ (i0 : Int) := by omega
    have izn : (i0 : Int) < (NZ : Int) := by omega
    have icn : (i0 : Int) < (NC : Int) := by omega
    iterate 27 (first | (refine cl_do rfl rfl rfl rfl (fun _ _ => ?_); go_wp2_with fail) | (refine cl_yes rfl rfl rfl rfl (by first | rfl | simp [okB, lenV, plainV, Act.eval]) (fun _ _ => ?_); go_wp2_with fail) | (refine cl_no rfl rfl rfl ?_; go_simp))
    clear i0n izn icn hg2 cz
    clear hbx x0 x1 x2 x3 x4 x5
    clear h8 d0 d1 d2 d3 d4 d5 d6 d7 d8 d9 d10 d11
    refine cl_ycall (i := 27) rfl rfl rfl rfl (fun K hK => ?_)
    go_wp2_with fail
    go_at_call 30
    have HAp := Applies_c ⟨bs m.id, bs m.auth, m.kind, bs m.target, m.cond.op, bs m.cond.name, m.cond.cmp, m.cond.num, y2, n2, m2, m.fr, m.un, m.wi⟩ zx z.length zc z s.signed s.now W3 hz
    dsimp only [Ms.v] at HAp
    refine HAp.mono ?_
    clear HAp
    rintro e W4 ⟨rfl, hb⟩
    replace HO := Lib.hid (HO.out.below hb)
    have Hb := Lib.hid hb
    clear hz hb
    dsimp only
    obtain ⟨q, hq⟩ : ∃ q, q = appliesF z m.kind m.fr m.un m.wi s.signed s.now := ⟨_, rfl⟩
    rw [← hq]
    have HQ := Lib.hid hq
    clear hq
    go_wp2_with fail
    refine And.intro Hb.out ?_
    clear Hb
    cases q
    · have HE : Hid (countsB s m = false) := by
        show _ = _
        rw [HCB.out, ← HQ.out]; rfl
      iterate 14 (first | (refine cl_do rfl rfl rfl rfl (fun _ _ => ?_); go_wp2_with fail) | (refine cl_yes rfl rfl rfl rfl (by first | rfl | simp [okB, lenV, plainV, Act.eval]) (fun _ _ => ?_); go_wp2_with fail) | (refine cl_no rfl rfl rfl ?_; go_simp))
      refine cl_nil ?_
      go_wp2_with fail
      go_ret
      exact ⟨by rw [HE.out]; rfl, HO.out.base⟩
    obtain ⟨g3', off3', cu', e3, hg3, cc, hcu⟩ := HS.out.cases.get HO.out.base HC.out
    cases e3
    obtain ⟨bk, -⟩ := HO.out.blk
    have hbx := lt_of_block bk
    have x0 := cell_of_heap bk (i := 0)
    have x1 := cell_of_heap bk (i := 1)
    have x2 := cell_of_heap bk (i := 2)
    have x3 := cell_of_heap bk (i := 3)
    have x4 := cell_of_heap bk (i := 4)
    have x5 := cell_of_heap bk (i := 5)
    simp only [List.getElem?_toArray, List.getElem?_cons_succ, List.getElem?_cons_zero] at x0 x1 x2 x3 x4 x5
    clear bk
    obtain ⟨bk, -⟩ := HO.out.pop.blk
    have h8 := lt_of_block bk
    have d0 := cell_of_heap bk (i := 0)
    have d1 := cell_of_heap bk (i := 1)
    have d2 := cell_of_heap bk (i := 2)
    have d3 := cell_of_heap bk (i := 3)
    have d4 := cell_of_heap bk (i := 4)
    have d5 := cell_of_heap bk (i := 5)
    have d6 := cell_of_heap bk (i := 6)
    have d7 := cell_of_heap bk (i := 7)
    have d8 := cell_of_heap bk (i := 8)
    have d9 := cell_of_heap bk (i := 9)
    have d10 := cell_of_heap bk (i := 10)
    have d11 := cell_of_heap bk (i := 11)
    simp only [List.getElem?_toArray, List.getElem?_cons_succ, List.getElem?_cons_zero] at d0 d1 d2 d3 d4 d5 d6 d7 d8 d9 d10 d11
    clear bk
    iterate 11 (first | (refine cl_do rfl rfl rfl rfl (fun _ _ => ?_); go_wp2_with fail) | (refine cl_yes rfl rfl rfl rfl (by first | rfl | simp [okB, lenV, plainV, Act.eval]) (fun _ _ => ?_); go_wp2_with fail) | (refine cl_no rfl rfl rfl ?_; go_simp))
    clear hg3 cc
    clear hbx x0 x1 x2 x3 x4 x5
    clear h8 d0 d1 d2 d3 d4 d5 d6 d7 d8 d9 d10 d11
    refine cl_ycall (i := 39) rfl rfl rfl rfl (fun K hK => ?_)
    go_wp2_with fail
    go_at_call 31
    refine (Holds_c m.cond W4 _ s.dom _ cs _ (HFm.out.later HO.out.base) (HS.out.dom.later HO.out.base) hcu HL.out.dom.len HCn.out HL.out.dom.names (lim := 140737488355328) (by omega) HMC.out.names HMC.out.size).mono ?_
    rintro e W5 ⟨rfl, hb⟩
    replace HO := Lib.hid (HO.out.below hb)
    have Hb := Lib.hid hb
    clear hcu hb
    obtain ⟨q, hq⟩ : ∃ q, q = holdsF s.dom cs m.cond := ⟨_, rfl⟩
    rw [← hq]
    have HQ2 := Lib.hid hq
    clear hq
    have HE : Hid (countsB s m = q) := by
      show _ = _
      rw [HCB.out, ← HQ.out, ← HQ2.out]; rfl
    go_wp2_with fail
    refine And.intro Hb.out ?_
    clear Hb
    iterate 2 (first | (refine cl_do rfl rfl rfl rfl (fun _ _ => ?_); go_wp2_with fail) | (refine cl_yes rfl rfl rfl rfl (by first | rfl | simp [okB, lenV, plainV, Act.eval]) (fun _ _ => ?_); go_wp2_with fail) | (refine cl_no rfl rfl rfl ?_; go_simp))
    refine cl_nil ?_
    go_wp2_with fail
    go_ret
    exact ⟨by rw [HE.out]; rfl, HO.out.base⟩
end Go.Proofs.YtakadfdnhlfijaaGreatDoor
