/-
  'VerdictTime' returns true: the walk.
-/
import Derived.Test.YtakadfdnhlfijaaGreatDoorVdLaw
import Derived.Test.YtakadfdnhlfijaaGreatDoorVdTm
import Derived.Test.YtakadfdnhlfijaaGreatDoorWnA
namespace Go.Proofs.YtakadfdnhlfijaaGreatDoor
open Go.RowKit Go.Cz Go.Cz.Lx Go.Cz.Fo Go.Cz.Vd
open Go.Cz.Ck (Shift validB)
open Go.Cz.Wn (Ms changesF)
set_option linter.unusedSimpArgs false
set_option linter.unusedVariables false
attribute [local go_sem] bs_size bs_extract bs_append bs_toList
attribute [local irreducible] cList cPlan
/-- A measure as the windows see it. -/
def toMs (m : Me) (kv : Value) : Ms := match kv with
  | .slice a n c => ⟨bs m.id, bs m.auth, m.kind, bs m.target, m.cond.op, bs m.cond.name, m.cond.cmp, m.cond.num, a, n, c, m.fr, m.un, m.wi⟩
  | _ => ⟨bs m.id, bs m.auth, m.kind, bs m.target, m.cond.op, bs m.cond.name, m.cond.cmp, m.cond.num, none, 0, 0, m.fr, m.un, m.wi⟩
theorem chg_len (au : List ByteArray) (zs : List (List Shift)) : ∀ (ms : List Ms) (xs : List Int), (Wn.chg au zs ms xs).1.length ≤ xs.length + 3 * ms.length
  | [], xs => by simp [Wn.chg]
  | m :: r, xs => by
    unfold Wn.chg
    have hd : (Wn.daysF m).length ≤ 3 := by unfold Wn.daysF; split <;> simp
    split
    · have := chg_len au zs r xs
      rw [List.length_cons]; omega
    · split
      · have h1 := chg_len au zs r (Wn.beginsF (zs.getD (Lib.idxOfS au m.auth).toNat []) (Wn.daysF m) xs)
        have h2 := Wn.beginsF_len (zs.getD (Lib.idxOfS au m.auth).toNat []) (Wn.daysF m) xs
        rw [List.length_cons]; omega
      · simp
theorem changes_len (ms : List Ms) (au : List ByteArray) (zs : List (List Shift)) : (changesF ms au zs).1.length ≤ 601 := by
  unfold changesF
  split
  · simp
  · split
    · simp
    · split
      · have := chg_len au zs ms [0]
        simp at this
        omega
      · simp
theorem rows_of : ∀ {α β : Type} {l : List α} {P : Nat → α → β → Prop}, (∀ (j : Nat) (m : α), l[j]? = some m → ∃ b, P j m b) → ∃ L : List (α × β), L.map Prod.fst = l ∧ ∀ (j : Nat) (p : α × β), L[j]? = some p → P j p.1 p.2
  | _, _, [], P, _ => ⟨[], rfl, fun j p h => by simp at h⟩
  | _, _, m :: r, P, h => by
    obtain ⟨kv, hk⟩ := h 0 m rfl
    obtain ⟨L, h1, h2⟩ := rows_of (l := r) (P := fun j => P (j + 1)) fun j x hx => h (j + 1) x (by simpa using hx)
    refine ⟨(m, kv) :: L, by simp [h1], fun j p hp => ?_⟩
    rcases j with _ | j
    · obtain rfl : (m, kv) = p := by simpa using hp
      exact hk
    · exact h2 j p (by simpa using hp)
theorem ms_of {W : World} {l : List Me} {y : Option Addr} {n c : Nat} (h : IsMeR W l (.slice y n c)) : ∃ ms, IsMs W y n ms ∧ Go.Cz.Vd.Alike l ms := by
  obtain ⟨y', c', e, h⟩ := h
  cases e
  rcases h with rfl | ⟨g, off, rfl, hg, hm, hc⟩
  · exact ⟨[], ⟨rfl, .inl rfl⟩, fun m hm => absurd hm List.not_mem_nil⟩
  · obtain ⟨L, e1, e2⟩ := rows_of (P := fun j m kv => MeAt W g (off + j * 12) m kv ∧ ∃ a n c, kv = Value.slice a n c) fun j m hj => by
      obtain ⟨kv, k1, k2⟩ := hc j m hj
      obtain ⟨a, c, e⟩ := k2.form
      exact ⟨kv, k1, a, _, c, e⟩
    refine ⟨L.map fun p => toMs p.1 p.2, ⟨by rw [List.length_map, ← e1, List.length_map], .inr ⟨g, off, rfl, hg, fun j x hx k u hu => ?_⟩⟩, fun m hm => ?_⟩
    · obtain ⟨p, hp, rfl⟩ : ∃ p, L[j]? = some p ∧ toMs p.1 p.2 = x := by
        rw [List.getElem?_map] at hx
        cases hq : L[j]? with
        | none => rw [hq] at hx; simp at hx
        | some q => rw [hq] at hx; exact ⟨q, rfl, by simpa using hx⟩
      obtain ⟨⟨c0, c1, c2, c3, c4, c5, c6, c7, c8, c9, c10, c11⟩, a, n, c, e⟩ := e2 j p hp
      rw [e] at c8 hu
      rcases k with _ | _ | _ | _ | _ | _ | _ | _ | _ | _ | _ | _ | k
      · rw [← hu]; exact c0
      · rw [← hu]; exact c1
      · rw [← hu]; exact c2
      · rw [← hu]; exact c3
      · rw [← hu]; exact c4
      · rw [← hu]; exact c5
      · rw [← hu]; exact c6
      · rw [← hu]; exact c7
      · rw [← hu]; exact c8
      · rw [← hu]; exact c9
      · rw [← hu]; exact c10
      · rw [← hu]; exact c11
      · cases hu
    · rw [← e1] at hm
      obtain ⟨p, hp, rfl⟩ := List.mem_map.1 hm
      obtain ⟨j, hj⟩ := List.getElem?_of_mem hp
      obtain ⟨-, a, n, c, e⟩ := e2 j p hj
      exact ⟨_, List.mem_map.2 ⟨p, hp, rfl⟩, by rw [e]; rfl, by rw [e]; rfl, by rw [e]; rfl, by rw [e]; rfl, by rw [e]; rfl⟩
theorem strs_of {W : World} {l : List Bytes} {y : Option Addr} {n c : Nat} (h : IsTxR W l (.slice y n c)) : IsStrs W y n (l.map bs) ∧ n ≤ c := by
  obtain ⟨y', c', e, h⟩ := h
  cases e
  rcases h with rfl | ⟨g, off, rfl, hg, hm, hc⟩
  · exact ⟨⟨rfl, .inl rfl⟩, Nat.zero_le _⟩
  · refine ⟨⟨by rw [List.length_map], .inr ⟨g, off, rfl, hg, fun j hj => ?_⟩⟩, hm⟩
    rw [List.length_map] at hj
    rw [hc j l[j] (List.getElem?_eq_getElem hj)]
    simp [List.getD_eq_getElem?_getD, hj]
theorem zones_of {W : World} {l : List (List Shift)} {y : Option Addr} {n c : Nat} (h : IsZoR W l (.slice y n c)) : ∃ zs, IsZones W y n zs ∧ zs.map (·.l) = l := by
  obtain ⟨y', c', e, h⟩ := h
  cases e
  rcases h with rfl | ⟨g, off, rfl, hg, hm, hc⟩
  · exact ⟨[], ⟨rfl, .inl rfl⟩, rfl⟩
  · obtain ⟨L, e1, e2⟩ := rows_of (P := fun j (z : List Shift) (q : Option Addr × Nat) => W.cell? ⟨g, off + j, none⟩ = some (.slice q.1 z.length q.2) ∧ IsShifts W q.1 z.length z) fun j z hj => by
      obtain ⟨x, zc, k1, k2⟩ := hc j z hj
      exact ⟨(x, zc), k1, k2⟩
    refine ⟨L.map fun p => ⟨p.2.1, p.1.length, p.2.2, p.1⟩, ⟨by rw [List.length_map, ← e1, List.length_map], .inr ⟨g, off, rfl, hg, fun j x hx => ?_⟩⟩, by rw [List.map_map, ← e1]; rfl⟩
    obtain ⟨p, hp, rfl⟩ : ∃ p, L[j]? = some p ∧ (⟨p.2.1, p.1.length, p.2.2, p.1⟩ : Zn) = x := by
      rw [List.getElem?_map] at hx
      cases hq : L[j]? with
      | none => rw [hq] at hx; simp at hx
      | some q => rw [hq] at hx; exact ⟨q, rfl, by simpa using hx⟩
    exact e2 j p hp
set_option maxRecDepth 100000 in
set_option maxHeartbeats 16000000 in
theorem VerdictTime_walk (w : World) (l : List Me) (lv : Value) (hl : MeIn w l lv) (s : Sc) (vd va vz vc : Value) (hs : ScIn w s vd va vz vc) (later : Int) (hw : (Lit.int .i64 later).wf = true) :
    Calls Tryz.prog 8 #[lv, sval s vd va vz vc, .int .i64 later] w fun e w' => e = .returned (.bool true) ∧ Below w.heap.size w w' := by
  clear hw
  have HFew := Lib.hid (few_c2 hl hs)
  have HML := Lib.hid hl
  have HSL := Lib.hid hs
  have HIn := Lib.hid fun h : fewV l s = true => few_in h hl hs
  obtain ⟨y, c, rfl⟩ := hl.row.form
  obtain ⟨N, hN⟩ : ∃ N, N = l.length := ⟨_, rfl⟩
  have HN := Lib.hid hN
  clear hl
  obtain ⟨yd, md, rfl⟩ := hs.sc.dom.form
  obtain ⟨ya, ma, rfl⟩ := hs.sc.auths.form
  obtain ⟨yz, mz, rfl⟩ := hs.sc.zones.form
  obtain ⟨yc, mc, rfl⟩ := hs.sc.cases.form
  have HS := Lib.hid hs
  have HSs := Lib.hid hs.sc
  obtain ⟨ND, hND⟩ : ∃ n, n = s.dom.length := ⟨_, rfl⟩
  obtain ⟨NA, hNA⟩ : ∃ n, n = s.auths.length := ⟨_, rfl⟩
  obtain ⟨NZ, hNZ⟩ : ∃ n, n = s.zones.length := ⟨_, rfl⟩
  obtain ⟨NC, hNC⟩ : ∃ n, n = s.cases.length := ⟨_, rfl⟩
  rw [← hND, ← hNA, ← hNZ, ← hNC] at HS HSs ⊢
  clear hs
  rw [← hN] at HML HFew ⊢
  rw [← hND, ← hNA, ← hNZ, ← hNC] at HFew
  clear hN hND hNA hNZ hNC HSL
  obtain ⟨W1, hW1⟩ : ∃ W1, W1 = w.alloc (sobj s (.slice yd ND md) (.slice ya NA ma) (.slice yz NZ mz) (.slice yc NC mc)) := ⟨_, rfl⟩
  obtain ⟨bx, hbx⟩ : ∃ b, b = w.heap.size := ⟨_, rfl⟩
  have HO : Hid (Owns w W1 [blk bx (sobj s (.slice yd ND md) (.slice ya NA ma) (.slice yz NZ mz) (.slice yc NC mc))]) := by
    rw [hW1, hbx]
    exact Lib.hid ((Owns.start w).box _)
  go_enter Tryz.func8, Tryz.ntmps8
  go_wp2_with fail
  rw [← hW1, ← hbx]
  clear hW1 hbx
  go_at_call 9
  refine (head_c W1).mono ?_
  rintro e W2 ⟨rfl, hb⟩
  replace HO := Lib.hid (HO.out.below hb)
  clear hb
  obtain ⟨bk, -⟩ := HO.out.blk
  have hbx := lt_of_block bk
  have x0 := cell_of_heap bk (i := 0)
  have x1 := cell_of_heap bk (i := 1)
  have x2 := cell_of_heap bk (i := 2)
  have x3 := cell_of_heap bk (i := 3)
  have x4 := cell_of_heap bk (i := 4)
  have x5 := cell_of_heap bk (i := 5)
  simp only [List.getElem?_toArray, List.getElem?_cons_succ, List.getElem?_cons_zero] at x0 x1 x2 x3 x4 x5
  clear bk
  go_wp2_with fail
  clear hbx x0 x1 x2 x3 x4 x5
  go_at_call 10
  refine (HFew.out W2 HO.out.base).mono ?_
  rintro e W3 ⟨rfl, hb⟩
  replace HO := Lib.hid (HO.out.below hb)
  clear hb HFew
  obtain ⟨q, hq⟩ : ∃ q, q = fewV l s := ⟨_, rfl⟩
  rw [← hq]
  have HQ := Lib.hid hq
  clear hq
  cases q
  · go_wp2_with fail
    go_ret
    exact ⟨rfl, HO.out.base⟩
  have HI := Lib.hid (HIn.out HQ.out.symm)
  clear HIn HQ
  have hN8 : N ≤ 8 := by rw [HN.out]; exact HI.out.ms8
  obtain ⟨bk, -⟩ := HO.out.blk
  have hbx := lt_of_block bk
  have x0 := cell_of_heap bk (i := 0)
  have x1 := cell_of_heap bk (i := 1)
  have x2 := cell_of_heap bk (i := 2)
  have x3 := cell_of_heap bk (i := 3)
  have x4 := cell_of_heap bk (i := 4)
  have x5 := cell_of_heap bk (i := 5)
  simp only [List.getElem?_toArray, List.getElem?_cons_succ, List.getElem?_cons_zero] at x0 x1 x2 x3 x4 x5
  clear bk
  by_cases hlat : later < s.now
  · go_wp2_with fail
    go_ret
    exact ⟨rfl, HO.out.base⟩
  have HTx1 := Lib.hid (ve_tx (l := l) (s := s) (cov := []) HI.out.ms)
  rw [show licensedV l s [] = decideV l s from rfl] at HTx1
  obtain ⟨ms, hms, hal⟩ := ms_of HML.out.row
  obtain ⟨zs, hzs, hze⟩ := zones_of HSs.out.zones
  obtain ⟨hst, hac⟩ := strs_of HSs.out.auths
  have HCh := Lib.hid fun (W : World) (hb : Below w.heap.size w W) => Changes_c W y N c ya NA ma yz NZ mz ms (s.auths.map bs) zs ⟨hms.below hb, hst.below hb, hzs.below hb, hac, fun _ _ _ => idxAny, fun a ha => by
    obtain ⟨x, hx, rfl⟩ := List.mem_map.1 ha
    exact HS.out.texts x hx⟩
  rw [hze] at HCh
  have HLaw := Lib.hid fun h1 h2 h3 => time_law (l := l) (s := s) (later := later) (ms := ms) h1 (by omega) hal h2 h3
  have hc601 := changes_len ms (s.auths.map bs) s.zones
  obtain ⟨ch, hch⟩ : ∃ ch, ch = changesF ms (s.auths.map bs) s.zones := ⟨_, rfl⟩
  rw [← hch] at HCh HLaw hc601
  clear hms hal hzs hze hst hac hch
  obtain ⟨cl, cq⟩ := ch
  obtain ⟨r1, hr1⟩ : ∃ r, r = decideV l s := ⟨_, rfl⟩
  rw [← hr1] at HTx1 HLaw
  have HR1 := Lib.hid hr1.symm
  clear hr1
  obtain ⟨⟨k1, fl1, bl1⟩, q1⟩ := r1
  dsimp only at HTx1 HLaw HCh hc601
  have HLt := Lib.hid hlat
  go_wp2_with fail
  clear hbx x0 x1 x2 x3 x4 x5
  go_at_call 13
  refine (decide_c l s _ _ _ _ _ W3 (HML.out.row.later HO.out.base) (HSs.out.later HO.out.base) HI.out.ms HI.out.sc HI.out.a HI.out.z HI.out.c).mono ?_
  rintro e V1a ⟨f1, g1, rfl, h1⟩
  rw [HR1.out] at h1 ⊢
  dsimp only at h1 ⊢
  have HOn := Lib.hid (Owns.app HO.out h1)
  clear h1 HO
  obtain ⟨fy1, fc1, rfl, -⟩ := HOn.out.txIs
  obtain ⟨by1, bc1, rfl, -⟩ := HOn.out.pop.txIs
  obtain ⟨nf1, hnf⟩ : ∃ n, n = fl1.length := ⟨_, rfl⟩
  obtain ⟨nb1, hnb⟩ : ∃ n, n = bl1.length := ⟨_, rfl⟩
  rw [← hnf, ← hnb] at HOn ⊢
  have HNf1 := Lib.hid hnf
  have HNb1 := Lib.hid hnb
  clear hnf hnb
  obtain ⟨b1, hb1⟩ : ∃ b, b = V1a.heap.size := ⟨_, rfl⟩
  obtain ⟨V1, hV1⟩ : ∃ W, W = V1a.alloc (vobj k1 (.slice fy1 nf1 fc1) (.slice by1 nb1 bc1)) := ⟨_, rfl⟩
  have HO : Hid (Owns w V1 [blk b1 (vobj k1 (.slice fy1 nf1 fc1) (.slice by1 nb1 bc1)), txP (.slice fy1 nf1 fc1) fl1, txP (.slice by1 nb1 bc1) bl1, blk bx (sobj s (.slice yd ND md) (.slice ya NA ma) (.slice yz NZ mz) (.slice yc NC mc))]) := by
    rw [hV1, hb1]
    exact Lib.hid (HOn.out.box _)
  clear HOn
  obtain ⟨bk, -⟩ := (Owns.drop HO.out 3).blk
  have hbx := lt_of_block bk
  have x0 := cell_of_heap bk (i := 0)
  have x1 := cell_of_heap bk (i := 1)
  have x2 := cell_of_heap bk (i := 2)
  have x3 := cell_of_heap bk (i := 3)
  have x4 := cell_of_heap bk (i := 4)
  have x5 := cell_of_heap bk (i := 5)
  simp only [List.getElem?_toArray, List.getElem?_cons_succ, List.getElem?_cons_zero] at x0 x1 x2 x3 x4 x5
  clear bk
  rw [hV1] at hbx x0 x1 x2 x3 x4 x5
  go_wp2_with fail
  rw [← hV1, ← hb1]
  clear hV1 hb1
  clear hbx x0 x1 x2 x3 x4 x5
  go_at_call 22
  refine (HCh.out V1 HO.out.base).mono ?_
  rintro e W6 ⟨cv, rfl, hcv, hb⟩
  replace HO : Hid (Owns w W6 [blk b1 (vobj k1 (.slice fy1 nf1 fc1) (.slice by1 nb1 bc1)), txP (.slice fy1 nf1 fc1) fl1, txP (.slice by1 nb1 bc1) bl1, blk bx (sobj s (.slice yd ND md) (.slice ya NA ma) (.slice yz NZ mz) (.slice yc NC mc))]) := Lib.hid (HO.out.below hb)
  have HCl := Lib.hid hcv
  clear hcv hb HCh
  dsimp only at HCl ⊢
  obtain ⟨cy, cc, rfl, hcg⟩ : ∃ y c, cv = .slice y cl.length c ∧ ∀ (j : Nat) (x : Int), cl[j]? = some x → ∃ g, y = some ⟨g, 0, none⟩ ∧ g < W6.heap.size ∧ W6.cell? ⟨g, j, none⟩ = some (.int .i64 x) := by
    rcases HCl.out with ⟨e1, e2⟩ | ⟨g, c, e1, e2, e3⟩
    · rw [e2]
      exact ⟨none, 0, e1, fun j x hj => by simp at hj⟩
    · exact ⟨_, c, e1, fun j x hj => ⟨g, rfl, e2, e3 j x hj⟩⟩
  have HCg := Lib.hid hcg
  clear hcg HCl
  obtain ⟨nc, hnc⟩ : ∃ n, n = cl.length := ⟨_, rfl⟩
  have HNc := Lib.hid hnc
  rw [← hnc]
  clear hnc
  by_cases hq1 : q1 = 0
  rotate_left
  · have hq1' : ((q1 : Int) != 0) = true := by simp; omega
    clear hq1
    go_wp2_with fail
    go_ret
    exact ⟨rfl, HO.out.base⟩
  have hq1' : ((q1 : Int) != 0) = false := by simp; omega
  by_cases hc0 : cq = 0
  rotate_left
  · have hc0' : (cq != 0) = true := by simpa using hc0
    clear hq1 hc0
    go_wp2_with fail
    go_ret
    exact ⟨rfl, HO.out.base⟩
  have hc0' : (cq != 0) = false := by simpa using hc0
  replace HLaw := Lib.hid (HLaw.out hq1 hc0)
  clear hq1 hc0
  have hnc9 : nc ≤ 601 := by rw [HNc.out]; exact hc601
  clear hc601
  go_wp2_with fail
  have HB : Hid (∀ i, i < 0 → ∀ y, cl[i]? = some y → ¬ (s.now < y ∧ y ≤ later)) := Lib.hid fun i hi => by omega
  go_loopg [12] nc (fun gk i wr => ∃ k : Nat, gk = nc - k ∧ k ≤ nc ∧ i = .int .i64 (k : Int) ∧ Hid (∀ i, i < k → ∀ y, cl[i]? = some y → ¬ (s.now < y ∧ y ≤ later)) ∧ Hid (Owns w wr [blk b1 (vobj k1 (.slice fy1 nf1 fc1) (.slice by1 nb1 bc1)), txP (.slice fy1 nf1 fc1) fl1, txP (.slice by1 nb1 bc1) bl1, blk bx (sobj s (.slice yd ND md) (.slice ya NA ma) (.slice yz NZ mz) (.slice yc NC mc))]) ∧ Hid (Below W6.heap.size W6 wr))
  case atStart => exact ⟨0, rfl, Nat.zero_le _, rfl, HB, HO, Lib.hid (Below.refl _ _)⟩
  case round =>
    rename_i J1 K1 hJ1 hK1
    clear HO HB
    obtain ⟨k, rfl, hk, rfl, HB, HO, HW6⟩ := hrel
    by_cases hlt : k < nc
    · obtain ⟨x, hx⟩ : ∃ x, cl[k]? = some x := ⟨_, List.getElem?_eq_getElem (by rw [← HNc.out]; exact hlt)⟩
      have HX := Lib.hid hx
      clear hx
      go_wp2_with fail
      refine wp_region_can [] (List.range 15) (by decide +kernel) (by decide +kernel) ?_
      replace HO := Lib.hid HO.out.drew
      obtain ⟨WA, hWA⟩ : ∃ W, W = wr.drew := ⟨_, rfl⟩
      have hbA : Below wr.heap.size wr WA := by rw [hWA]; exact (Below.refl _ _).drew
      replace HW6 := Lib.hid (HW6.out.trans (hbA.mono HW6.out.size))
      rw [← hWA] at HO ⊢
      clear hWA hbA
      obtain ⟨g, rfl, hg0, cx0⟩ := HCg.out k x HX.out
      have hg : g < WA.heap.size := Nat.lt_of_lt_of_le hg0 HW6.out.size
      have cx : WA.cell? ⟨g, k, none⟩ = some (.int .i64 x) := (HW6.out.cell (p := ⟨g, k, none⟩) hg0).trans cx0
      clear hg0 cx0
      obtain ⟨bk, -⟩ := (Owns.drop HO.out 3).blk
      have hbx := lt_of_block bk
      have x0 := cell_of_heap bk (i := 0)
      have x1 := cell_of_heap bk (i := 1)
      have x2 := cell_of_heap bk (i := 2)
      have x3 := cell_of_heap bk (i := 3)
      have x4 := cell_of_heap bk (i := 4)
      have x5 := cell_of_heap bk (i := 5)
      simp only [List.getElem?_toArray, List.getElem?_cons_succ, List.getElem?_cons_zero] at x0 x1 x2 x3 x4 x5
      clear bk
      by_cases h1 : s.now < x
      · have h1' : decide (x > s.now) = true := decide_eq_true h1
        by_cases h2 : x ≤ later
        · iterate 15 (first | (refine cl_do rfl rfl rfl rfl (fun _ _ => ?_); go_wp2_with fail) | (refine cl_yes rfl rfl rfl rfl (by first | rfl | simp [okB, lenV, plainV, Act.eval]) (fun _ _ => ?_); go_wp2_with fail) | (refine cl_no rfl rfl rfl ?_; go_simp))
          clear hg cx
          clear hbx x0 x1 x2 x3 x4 x5
          refine cl_nil ?_
          clear hJ1 hK1
          go_wp2_with fail
          go_ret
          exact ⟨rfl, HO.out.base⟩
        · have HB2 : Hid (∀ i, i < k + 1 → ∀ y, cl[i]? = some y → ¬ (s.now < y ∧ y ≤ later)) := Lib.hid fun i hi y hy => by
            by_cases hik : i = k
            · subst hik
              rw [HX.out] at hy
              cases hy
              omega
            · exact HB.out i (by omega) y hy
          iterate 15 (first | (refine cl_do rfl rfl rfl rfl (fun _ _ => ?_); go_wp2_with fail) | (refine cl_yes rfl rfl rfl rfl (by first | rfl | simp [okB, lenV, plainV, Act.eval]) (fun _ _ => ?_); go_wp2_with fail) | (refine cl_no rfl rfl rfl ?_; go_simp))
          clear hg cx HB
          clear hbx x0 x1 x2 x3 x4 x5
          refine cl_nil ?_
          go_wp2_with fail
          go_roundg (nc - (k + 1))
          case measure => omega
          case rel => exact ⟨k + 1, rfl, by omega, by go_num, HB2, HO, HW6⟩
      · have HB2 : Hid (∀ i, i < k + 1 → ∀ y, cl[i]? = some y → ¬ (s.now < y ∧ y ≤ later)) := Lib.hid fun i hi y hy => by
          by_cases hik : i = k
          · subst hik
            rw [HX.out] at hy
            cases hy
            omega
          · exact HB.out i (by omega) y hy
        have h1' : decide (x > s.now) = false := decide_eq_false h1
        iterate 15 (first | (refine cl_do rfl rfl rfl rfl (fun _ _ => ?_); go_wp2_with fail) | (refine cl_yes rfl rfl rfl rfl (by first | rfl | simp [okB, lenV, plainV, Act.eval]) (fun _ _ => ?_); go_wp2_with fail) | (refine cl_no rfl rfl rfl ?_; go_simp))
        clear hg cx HB
        clear hbx x0 x1 x2 x3 x4 x5
        refine cl_nil ?_
        go_wp2_with fail
        go_roundg (nc - (k + 1))
        case measure => omega
        case rel => exact ⟨k + 1, rfl, by omega, by go_num, HB2, HO, HW6⟩
    · obtain rfl : k = nc := by omega
      have HL2 := Lib.hid (HLaw.out fun y hy => by
        obtain ⟨i, hi⟩ := List.getElem?_of_mem hy
        exact HB.out i (by rw [HNc.out]; exact (List.getElem?_eq_some_iff.1 hi).1) y hi)
      clear hJ1 hK1 hlt HB HLaw HCg HNc
      obtain ⟨bk, -⟩ := (Owns.drop HO.out 3).blk
      have hbx := lt_of_block bk
      have x0 := cell_of_heap bk (i := 0)
      have x1 := cell_of_heap bk (i := 1)
      have x2 := cell_of_heap bk (i := 2)
      have x3 := cell_of_heap bk (i := 3)
      have x4 := cell_of_heap bk (i := 4)
      have x5 := cell_of_heap bk (i := 5)
      simp only [List.getElem?_toArray, List.getElem?_cons_succ, List.getElem?_cons_zero] at x0 x1 x2 x3 x4 x5
      clear bk
      obtain ⟨bk, -⟩ := (Owns.drop HO.out 3).blk
      have fx5 := free_of_heap bk (i := 5)
      clear bk
      have HTx2 := Lib.hid (ve_tx (l := l) (s := { s with now := later }) (cov := []) HI.out.ms)
      rw [show licensedV l { s with now := later } [] = decideV l { s with now := later } from rfl] at HTx2
      have hoS := (HO.out.re [3, 0, 1, 2]).store (i := 5) (.int .i64 later)
      obtain ⟨WS, hWS⟩ : ∃ W, W = wr.setCell ⟨bx, 5, none⟩ (.int .i64 later) := ⟨_, rfl⟩
      rw [← hWS] at hoS
      replace HO : Hid (Owns w WS [blk bx (sobj { s with now := later } (.slice yd ND md) (.slice ya NA ma) (.slice yz NZ mz) (.slice yc NC mc)), blk b1 (vobj k1 (.slice fy1 nf1 fc1) (.slice by1 nb1 bc1)), txP (.slice fy1 nf1 fc1) fl1, txP (.slice by1 nb1 bc1) bl1]) := Lib.hid hoS
      clear hoS
      obtain ⟨r2, hr2⟩ : ∃ r, r = decideV l { s with now := later } := ⟨_, rfl⟩
      rw [← hr2] at HTx2 HL2
      have HR2 := Lib.hid hr2.symm
      clear hr2
      obtain ⟨⟨k2, fl2, bl2⟩, q2⟩ := r2
      dsimp only at HTx2 HL2
      have HSs2 : Hid (IsSc w { s with now := later } (.slice yd ND md) (.slice ya NA ma) (.slice yz NZ mz) (.slice yc NC mc)) := ⟨HSs.out.dom, HSs.out.auths, HSs.out.zones, HSs.out.cases⟩
      have HSl2 : Hid (ScLen { s with now := later }) := ⟨HI.out.sc.dom, HI.out.sc.auths, HI.out.sc.cases⟩
      go_wp2_with fail
      clear hbx x0 x1 x2 x3 x4 x5 fx5
      rw [← hWS]
      clear hWS
      go_at_call 13
      refine (decide_c l { s with now := later } _ _ _ _ _ WS (HML.out.row.later HO.out.base) (HSs2.out.later HO.out.base) HI.out.ms HSl2.out HI.out.a HI.out.z HI.out.c).mono ?_
      rintro e V2a ⟨f2, g2, rfl, h1⟩
      rw [HR2.out] at h1 ⊢
      dsimp only at h1 ⊢
      have HOn := Lib.hid (Owns.app HO.out h1)
      clear h1 HO
      obtain ⟨fy2, fc2, rfl, -⟩ := HOn.out.txIs
      obtain ⟨by2, bc2, rfl, -⟩ := HOn.out.pop.txIs
      obtain ⟨nf2, hnf2⟩ : ∃ n, n = fl2.length := ⟨_, rfl⟩
      obtain ⟨nb2, hnb2⟩ : ∃ n, n = bl2.length := ⟨_, rfl⟩
      rw [← hnf2, ← hnb2] at HOn ⊢
      have HNf2 := Lib.hid hnf2
      have HNb2 := Lib.hid hnb2
      clear hnf2 hnb2
      obtain ⟨b2, hb2⟩ : ∃ b, b = V2a.heap.size := ⟨_, rfl⟩
      obtain ⟨V2, hV2⟩ : ∃ W, W = V2a.alloc (vobj k2 (.slice fy2 nf2 fc2) (.slice by2 nb2 bc2)) := ⟨_, rfl⟩
      have HO : Hid (Owns w V2 [blk b2 (vobj k2 (.slice fy2 nf2 fc2) (.slice by2 nb2 bc2)), txP (.slice fy2 nf2 fc2) fl2, txP (.slice by2 nb2 bc2) bl2, blk bx (sobj { s with now := later } (.slice yd ND md) (.slice ya NA ma) (.slice yz NZ mz) (.slice yc NC mc)), blk b1 (vobj k1 (.slice fy1 nf1 fc1) (.slice by1 nb1 bc1)), txP (.slice fy1 nf1 fc1) fl1, txP (.slice by1 nb1 bc1) bl1]) := by
        rw [hV2, hb2]
        exact Lib.hid (HOn.out.box _)
      clear HOn
      by_cases hmx : later ≤ 144001439
      · have hve := HL2.out.1 hmx
        simp only [Prod.mk.injEq] at hve
        obtain ⟨hve, rfl⟩ := hve
        have HVe := Lib.hid hve
        have h4 : decide (later > 144001439) = false := decide_eq_false (by omega)
        obtain rfl : q2 = 0 := by simpa using hq1'
        have h5 : (((0 : Nat) : Int) == 1) = false := rfl
        have h6 : (((0 : Nat) : Int) == 0) = true := rfl
        clear HL2 hve
        obtain ⟨bk, -⟩ := Owns.blk HO.out
        have hbp := lt_of_block bk
        have ep0 := cell_of_heap bk (i := 0)
        have ep1 := cell_of_heap bk (i := 1)
        have ep2 := cell_of_heap bk (i := 2)
        simp only [List.getElem?_toArray, List.getElem?_cons_succ, List.getElem?_cons_zero] at ep0 ep1 ep2
        clear bk
        obtain ⟨bk, -⟩ := Owns.blk (Owns.drop HO.out 4)
        have hbr := lt_of_block bk
        have er0 := cell_of_heap bk (i := 0)
        have er1 := cell_of_heap bk (i := 1)
        have er2 := cell_of_heap bk (i := 2)
        simp only [List.getElem?_toArray, List.getElem?_cons_succ, List.getElem?_cons_zero] at er0 er1 er2
        clear bk
        rw [hV2] at er0 er1 er2 hbr
        go_wp2_with fail
        clear hbp ep0 ep1 ep2 hbr er0 er1 er2
        rw [← hV2]
        go_at_call 17
        refine (same_c ⟨k1, fl1, bl1⟩ ⟨k2, fl2, bl2⟩ _ _ _ _ V2 (Owns.drop HO.out 5).txIs (Owns.drop HO.out 6).txIs HO.out.pop.txIs (Owns.drop HO.out 2).txIs HTx1.out.1 HTx1.out.2 HTx2.out.1 HTx2.out.2).mono ?_
        rintro e W11 ⟨rfl, hb⟩
        replace HO := Lib.hid (HO.out.below hb)
        clear hb
        rw [sameV_iff.2 HVe.out.symm]
        go_wp2_with fail
        go_ret
        exact ⟨rfl, HO.out.base⟩
      · have h4 : decide (later > 144001439) = true := decide_eq_true (by omega)
        have hq2 := HL2.out.2 (by omega)
        subst hq2
        have h5 : (((1 : Nat) : Int) == 1) = true := rfl
        have h6 : (((1 : Nat) : Int) == 0) = false := rfl
        clear HL2 HSs2 HSl2
        go_wp2_with fail
        rw [← hV2]
        go_ret
        exact ⟨rfl, HO.out.base⟩
end Go.Proofs.YtakadfdnhlfijaaGreatDoor
