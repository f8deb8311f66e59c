/-
  'Licensed'.
-/
import Derived.Test.YtakadfdnhlfijaaGreatDoorVdCount
import Derived.Test.YtakadfdnhlfijaaGreatDoorVdTexts
import Derived.Test.YtakadfdnhlfijaaGreatDoorShelf
namespace Go.Proofs.YtakadfdnhlfijaaGreatDoor
open Go.RowKit Go.Cz Go.Cz.Lx Go.Cz.Fo Go.Cz.Vd
open Go.WideMaps (keyOf_string_mk)
open Go.Cz.Ck (Shift validB)
set_option linter.unusedSimpArgs false
set_option linter.unusedVariables false
attribute [local go_sem] bs_size bs_extract bs_append bs_toList
attribute [local irreducible] cList cPlan
/-- What 'Licensed' hands back. -/
def LicP (w : World) (r : Ve × Nat) (e : Ending) (w' : World) : Prop := ∃ fv bv, e = .returned (.tuple #[.agg #[.int .i64 r.1.kind, fv, bv], .int .i64 (r.2 : Nat)]) ∧ Owns w w' [txP fv r.1.forbids, txP bv r.1.blocks]
theorem no_texts (w : World) : IsTxR w [] (.slice none 0 0) := ⟨none, 0, rfl, .inl rfl⟩
abbrev vobj (k : Int) (f b : Value) : Obj := .cells #[.int .i64 k, f, b] 34 (0, 0)
/-- A row of measures of the call's own. -/
def meP (v : Value) (L : List (Me × Value)) : Piece where
  lies w S := w.ownsRow 0 46 12 v L.length (L.flatMap mcl) ∧ S = v.ownBlock.toList
  lt := by
    rintro w S ⟨h, rfl⟩ k hk
    rcases h.2 with ⟨rfl, _⟩ | ⟨g, cap, cur, rfl, _, hg, _⟩
    · simp [Value.ownBlock] at hk
    · simp [Value.ownBlock] at hk
      subst hk
      exact lt_of_block hg
  keep := by
    rintro w w' S T ⟨h, rfl⟩ hm hd
    refine ⟨⟨h.1, ?_⟩, rfl⟩
    rcases h.2 with h0 | ⟨g, cap, cur, rfl, h2, hg, h4⟩
    · exact .inl h0
    · exact .inr ⟨g, cap, cur, rfl, h2, hm.heap hg (hd g (by simp [Value.ownBlock])), h4⟩
section
variable {w0 w w' : World} {ps : List Piece} {v : Value} {L : List (Me × Value)}
theorem Owns.mePush (h : Owns w0 w ps) (hr : ORow 46 12 w w' v L.length (L.flatMap mcl)) : Owns w0 w' (meP v L :: ps) :=
  h.push (Q := meP v L) ⟨hr.row, rfl⟩ hr.below fun k hk => hr.new k (by simpa [Option.mem_toList] using hk)
theorem Owns.meForm (h : Owns w0 w (meP v L :: ps)) : ∃ y c, v = .slice y L.length c := by
  obtain ⟨S, ⟨hr, -⟩, -⟩ := h.first
  rcases hr.2 with ⟨h1, h2⟩ | ⟨g, c, cur, h1, -⟩
  · exact ⟨_, 0, by rw [h1, h2]⟩
  · exact ⟨_, c, h1⟩
theorem Owns.meGet {y : Option Addr} {n c j : Nat} {p : Me × Value} (h : Owns w0 w (meP (.slice y n c) L :: ps)) (hj : L[j]? = some p) : ∃ g, y = some ⟨g, 0, none⟩ ∧ g < w.heap.size ∧ MeAt w g (j * 12) p.1 p.2 := by
  obtain ⟨S, ⟨hr, -⟩, -⟩ := h.first
  rcases hr.2 with ⟨h1, h2⟩ | ⟨g, c, cur, hv, h2, hg, h4, h5, h6, h7⟩
  · have : L = [] := List.length_eq_zero_iff.1 h2
    subst this
    simp at hj
  · cases hv
    refine ⟨g, rfl, lt_of_block hg, ?_⟩
    have k : ∀ (i : Nat) (u : Value), i < 12 → (mcl p)[i]? = some u → w.cell? ⟨g, j * 12 + i, none⟩ = some u := fun i u hi hu => by
      rw [cell_of_heap hg]
      have h8 := (flat_mcl L j i p hj hi).trans hu
      rw [← h7, List.getElem?_take] at h8
      split at h8
      · simpa using h8
      · cases h8
    exact ⟨by have := k 0 _ (by omega) rfl; simpa using this, k 1 _ (by omega) rfl, k 2 _ (by omega) rfl, k 3 _ (by omega) rfl, k 4 _ (by omega) rfl, k 5 _ (by omega) rfl, k 6 _ (by omega) rfl, k 7 _ (by omega) rfl, k 8 _ (by omega) rfl, k 9 _ (by omega) rfl, k 10 _ (by omega) rfl, k 11 _ (by omega) rfl⟩
end
/-- What the calls of the closure see. -/
abbrev envP (b9 bm n : Nat) (D : DataW Unit) (br : Nat) (ov : Obj) (bx : Nat) (o : Obj) (bl : Nat) (lv : Value) : List Piece := [one b9 61 (.map (some bm)), mapP 9 3 bm n D, blk br ov, blk bx o, one bl 22 lv]
theorem ce_of {w0 W : World} {b9 bm n br bx bl : Nat} {r : List Bytes} {ov o : Obj} {lv : Value} (h : Owns w0 W (envP b9 bm n (atD r) br ov bx o bl lv)) : CE W W bl b9 bx bm n lv o r :=
  ⟨Below.refl _ _, (Owns.blk h.pop.pop.pop.pop).1, (Owns.blk h).1, (Owns.blk h.pop.pop.pop).1, (Owns.mapAt h.pop).1⟩
theorem Owns.drop {w0 w : World} {ps : List Piece} (h : Owns w0 w ps) : ∀ k, Owns w0 w (ps.drop k) := by
  intro k
  induction k generalizing ps with
  | zero => exact h
  | succ k ih =>
    cases ps with
    | nil => exact h
    | cons p ps => exact ih h.pop
theorem Has.cut {w0 w : World} {qs : List Piece} : ∀ {ps : List Piece} {U : List Nat}, Has w0 w (ps ++ qs) U → Has w0 w ps U
  | [], _, _ => trivial
  | _ :: ps, _, ⟨S, h1, h2, h3⟩ => ⟨S, h1, h2, Has.cut h3⟩
theorem Owns.cut {w0 w : World} {ps qs : List Piece} (h : Owns w0 w (ps ++ qs)) : Owns w0 w ps := ⟨h.1, Has.cut h.2⟩
theorem cov_c (cov : List Bytes) (y : Option Addr) (n c : Nat) (x : Bytes) (W : World) (h : IsTxR W cov (.slice y n c)) (hn : n ≤ 9223372036854775807) : Calls Tryz.prog 32 #[.slice y n c, .string (bs x)] W fun e w' => e = .returned (.bool (cov.contains x)) ∧ w' = W := by
  obtain ⟨y', c', e, h⟩ := h
  cases e
  rcases h with rfl | ⟨g, off, rfl, hg, hc, hcell⟩
  · exact Tryz.slices_Contains_string_empty _ _ _ _
  · refine (Tryz.slices_Contains_string g off _ c (cov.map bs) (bs x) W (by rw [List.length_map]; exact Nat.le_refl _) hn fun j hj => ?_).mono ?_
    · rw [List.length_map] at hj
      rw [hcell j cov[j] (List.getElem?_eq_getElem hj)]
      simp [List.getD_eq_getElem?_getD, hj]
    · rintro e w' ⟨rfl, rfl⟩
      refine ⟨?_, rfl⟩
      have : Lib.containsS (List.take cov.length (cov.map bs)) (bs x) = cov.contains x := by
        rw [List.take_of_length_le (by rw [List.length_map]; exact Nat.le_refl _), Bool.eq_iff_iff, Lib.containsS_iff]
        simp only [List.mem_map, List.contains_iff_mem]
        exact ⟨fun ⟨a, h1, h2⟩ => by rw [← bs_inj h2]; exact h1, fun h1 => ⟨x, h1, rfl⟩⟩
      rw [this]
theorem filter_next {α : Type} {q : α → Bool} {l : List α} {j : Nat} {m : α} (h : l[j]? = some m) : (l.take (j + 1)).filter q = (l.take j).filter q ++ if q m then [m] else [] := by
  rw [List.take_add_one, h, List.filter_append]
  cases hb : q m <;> simp [hb]
theorem map_next {α β : Type} {f : α → β} {l : List α} {j : Nat} {m : α} (h : l[j]? = some m) : ((l.take (j + 1)).map f).reverse = f m :: ((l.take j).map f).reverse := by
  rw [List.take_add_one, h]
  simp
set_option maxRecDepth 100000 in
set_option maxHeartbeats 4000000 in
theorem licensed_c (l : List Me) (s : Sc) (cov : List Bytes) (lv vd va vz vc cv : Value) (w : World) (hr : IsMeR w l lv) (hs : IsSc w s vd va vz vc) (hv : IsTxR w cov cv) (hm : MsLen l) (hl : ScLen s) (hA : s.auths.length ≤ 1000000) (hZ : s.zones.length ≤ 1000000) (hC : s.cases.length ≤ 1000000)
    (hcv : ∀ x ∈ cov, x.length ≤ 140737488355328) (hcl : cov.length ≤ 9223372036854775807) :
    Calls Tryz.prog 11 #[lv, sval s vd va vz vc, cv] w (LicP w (licensedV l s cov)) := by
  have HR := Lib.hid hr
  have HS := Lib.hid hs
  have HCv := Lib.hid hv
  have HM := Lib.hid hm
  have HL := Lib.hid hl
  have HCl := Lib.hid hcv
  have HP := Lib.hid fun (W : World) (hb : Below w.heap.size w W) => check_c l s lv vd va vz vc W (hr.later hb) (hs.later hb) hm hl hA hZ hC
  obtain ⟨y, c, rfl⟩ := hr.form
  obtain ⟨N, hN⟩ : ∃ N, N = l.length := ⟨_, rfl⟩
  have HN := Lib.hid hN
  have hNl : N ≤ 1000000 := by rw [hN]; exact hm.len
  rw [← hN] at HR HP ⊢
  obtain ⟨yk, mk, rfl⟩ := hv.form
  obtain ⟨NK, hNK⟩ : ∃ N, N = cov.length := ⟨_, rfl⟩
  have HNK := Lib.hid hNK
  rw [← hNK] at HCv hcl ⊢
  clear hr hv hm hcv hN hNK hZ hC
  obtain ⟨bl, hbl⟩ : ∃ b, b = w.heap.size := ⟨_, rfl⟩
  obtain ⟨bx, hbx⟩ : ∃ b, b = bl + 1 := ⟨_, rfl⟩
  obtain ⟨br, hbr⟩ : ∃ b, b = bl + 1 + 1 := ⟨_, rfl⟩
  obtain ⟨W1, hW1⟩ : ∃ W1, W1 = ((w.alloc (.cells #[.slice y N c] 22)).alloc (sobj s vd va vz vc)).alloc (vobj 0 (.slice none 0 0) (.slice none 0 0)) := ⟨_, rfl⟩
  have HO : Hid (Owns w W1 [blk br (vobj 0 (.slice none 0 0) (.slice none 0 0)), blk bx (sobj s vd va vz vc), one bl 22 (.slice y N c)]) := by
    rw [hW1, hbr, hbx, hbl]
    have := (((Owns.start w).box (.cells #[.slice y N c] 22 (0, 0))).box (sobj s vd va vz vc)).box (vobj 0 (.slice none 0 0) (.slice none 0 0))
    simp only [World.size_alloc] at this
    exact Lib.hid this
  obtain ⟨yd, md, rfl⟩ := HS.out.dom.form
  obtain ⟨ya, ma, rfl⟩ := HS.out.auths.form
  obtain ⟨yz, mz, rfl⟩ := HS.out.zones.form
  obtain ⟨yc, mc, rfl⟩ := HS.out.cases.form
  obtain ⟨ND, hND⟩ : ∃ n, n = s.dom.length := ⟨_, rfl⟩
  obtain ⟨NA, hNA⟩ : ∃ n, n = s.auths.length := ⟨_, rfl⟩
  obtain ⟨NZ, hNZ⟩ : ∃ n, n = s.zones.length := ⟨_, rfl⟩
  obtain ⟨NC, hNC⟩ : ∃ n, n = s.cases.length := ⟨_, rfl⟩
  rw [← hND, ← hNA, ← hNZ, ← hNC] at HS HP HO hW1 ⊢
  rw [← hNA] at hA
  have HNA := Lib.hid hNA
  clear hND hNA hNZ hNC hs hl
  go_enter Tryz.func11, Tryz.ntmps11
  go_wp2_with fail
  rw [← hW1, ← hbl, ← hbr, ← hbx]
  clear hW1 hbl hbx hbr
  go_at_call 28
  refine (HP.out W1 HO.out.base).mono ?_
  rintro e W2 ⟨rfl, hb⟩
  replace HO := Lib.hid (HO.out.below hb)
  clear hb HP
  obtain ⟨q, hq⟩ : ∃ q, q = checkV l s := ⟨_, rfl⟩
  rw [← hq]
  have HQ := Lib.hid hq
  clear hq
  by_cases hq0 : q = 0
  rotate_left
  · have hq1 : ((q : Int) != 0) = true := by simp; omega
    have HE : Hid (licensedV l s cov = (⟨0, [], []⟩, q)) := by
      show _ = _
      unfold licensedV
      rw [← HQ.out, if_pos hq0]
    obtain ⟨bk, -⟩ := Owns.blk (HO.out)
    have hb0 := lt_of_block bk
    have e0 := cell_of_heap bk (i := 0)
    have e1 := cell_of_heap bk (i := 1)
    have e2 := cell_of_heap bk (i := 2)
    simp only [List.getElem?_toArray, List.getElem?_cons_succ, List.getElem?_cons_zero] at e0 e1 e2
    have f0 := free_of_heap bk (i := 0)
    have f1 := free_of_heap bk (i := 1)
    have f2 := free_of_heap bk (i := 2)
    clear bk
    clear hq0 HQ
    go_wp2_with fail
    have ho := ((HO.out.store (i := 0) (.int .i64 0)).store (i := 1) (.slice none 0 0)).store (i := 2) (.slice none 0 0)
    replace ho : Owns w (((W2.setCell ⟨br, 0, none⟩ (.int .i64 0)).setCell ⟨br, 1, none⟩ (.slice none 0 0)).setCell ⟨br, 2, none⟩ (.slice none 0 0)) (blk br (vobj (0) (.slice none 0 0) (.slice none 0 0)) :: _) := ho
    clear hb0 e0 e1 e2 f0 f1 f2
    obtain ⟨W9, hW9⟩ : ∃ W9, W9 = ((W2.setCell ⟨br, 0, none⟩ (.int .i64 0)).setCell ⟨br, 1, none⟩ (.slice none 0 0)).setCell ⟨br, 2, none⟩ (.slice none 0 0) := ⟨_, rfl⟩
    rw [← hW9] at ho ⊢
    clear hW9
    obtain ⟨bk, -⟩ := Owns.blk (ho)
    have hb0 := lt_of_block bk
    have e0 := cell_of_heap bk (i := 0)
    have e1 := cell_of_heap bk (i := 1)
    have e2 := cell_of_heap bk (i := 2)
    simp only [List.getElem?_toArray, List.getElem?_cons_succ, List.getElem?_cons_zero] at e0 e1 e2
    have f0 := free_of_heap bk (i := 0)
    have f1 := free_of_heap bk (i := 1)
    have f2 := free_of_heap bk (i := 2)
    clear bk
    refine bodyPost_ret (v := .tuple #[.agg #[.int .i64 0, .slice none 0 0, .slice none 0 0], .int .i64 q]) (by simp [results, Tryz.results11, go_sem, e0, e1, e2]) rfl ?_
    exact ⟨_, _, by rw [HE.out], by rw [HE.out]; exact (Owns.drop ho 3).txNew.txNew⟩
  have hq1 : ((q : Int) != 0) = false := by simp; omega
  have HK0 : Hid (checkV l s = 0) := Lib.hid (HQ.out.symm.trans hq0)
  have HPr := Lib.hid (Go.Cz.Vd.check_zero.1 HK0.out).1
  clear HQ hq0
  have HCT0 := Lib.hid fun (kd : Int) (b9 bm n : Nat) (o : Obj) (W : World) (hb : Below w.heap.size w W) (ho : o = sobj s (.slice yd ND md) (.slice ya NA ma) (.slice yz NZ mz) (.slice yc NC mc)) (hce : CE W W bl b9 bx bm n (.slice y N c) o s.auths.reverse) => counting_c kd l s y N c HN.out _ _ _ _ bl b9 bx bm n W (HR.out.later hb) (HS.out.later hb) HM.out HL.out HPr.out (by rw [← ho]; exact hce)
  have hmm := @run_makeMap Tryz.prog
  obtain ⟨ov, hov⟩ : ∃ o, o = vobj 0 (.slice none 0 0) (.slice none 0 0) := ⟨_, rfl⟩
  obtain ⟨o, ho⟩ : ∃ o, o = sobj s (.slice yd ND md) (.slice ya NA ma) (.slice yz NZ mz) (.slice yc NC mc) := ⟨_, rfl⟩
  obtain ⟨bm, hbm⟩ : ∃ b, b = W2.heap.size := ⟨_, rfl⟩
  obtain ⟨b9, hb9⟩ : ∃ b, b = bm + 1 := ⟨_, rfl⟩
  obtain ⟨W4, hW4⟩ : ∃ W, W = (W2.alloc (.map #[] 0)).alloc (.cells #[.map (some W2.heap.size)] 61) := ⟨_, rfl⟩
  have HO4 : Hid (Owns w W4 (envP b9 bm 0 (atD ([] : List Bytes)) br ov bx o bl (.slice y N c))) := by
    rw [hW4, hb9, hbm, hov, ho]
    have := (Owns.mapNew HO.out 9 3).box (.cells #[.map (some W2.heap.size)] 61 (0, 0))
    rw [World.size_alloc] at this
    exact Lib.hid this
  obtain ⟨bk, -⟩ := Owns.blk HO.out.swap
  have hx0 := lt_of_block bk
  have cx1 : W2.cell? ⟨bx, 1, none⟩ = some (.slice ya NA ma) := by rw [cell_of_heap bk]; rfl
  clear bk
  go_wp2_with fail
  rw [← hW4, ← hbm, ← hb9]
  have HCT := Lib.hid fun (kd : Int) (n : Nat) (W : World) (hb : Below w.heap.size w W) (hce : CE W W bl b9 bx bm n (.slice y N c) o s.auths.reverse) => HCT0.out kd b9 bm n o W hb ho hce
  have HOv := Lib.hid hov
  clear hW4 hbm hb9 hx0 cx1 hov ho hmm HCT0
  go_loopg [35] NA (fun gk i wr => ∃ k : Nat, gk = NA - k ∧ k ≤ NA ∧ i = .int .i64 (k : Int) ∧ Hid (Owns w wr (envP b9 bm k (atD (s.auths.take k).reverse) br ov bx o bl (.slice y N c))))
  case atStart => exact ⟨0, rfl, Nat.zero_le _, rfl, HO4⟩
  case round =>
    rename_i J1 K1 hJ1 hK1
    clear HO4 HO
    obtain ⟨k, rfl, hk, rfl, HO⟩ := hrel
    by_cases hlt : k < NA
    · obtain ⟨x, hx⟩ : ∃ x, s.auths[k]? = some x := ⟨_, List.getElem?_eq_getElem (by rw [← HNA.out]; exact hlt)⟩
      obtain ⟨g, off, rfl, hg, ca⟩ := HS.out.auths.get HO.out.base hx
      have HX := Lib.hid hx
      have HXl : Hid (x.length ≤ 140737488355328) := Lib.hid (HL.out.auths x (List.mem_of_getElem? hx))
      clear hx
      obtain ⟨h9, q9, -⟩ := Owns.one HO.out
      have HMp := Lib.hid (Owns.mapAt HO.out.pop).1
      go_wp2_with (first | (at_mapUpdate; refine wpList_mapUpdate_own _ rfl _ _ _ 61 rfl 9 3 key_str Tryz.underlying61 _ bm k (atD (s.auths.take k).reverse) rfl HMp.out (by unfold maxLen; omega) _ _ _ rfl rfl (keyOf_string_mk Tryz.underlying9 (s := bs x) (by rw [bs_size]; have := HXl.out; unfold maxLen; omega)) (.lit (.int .i64 (k : Int))) [] (plainElem_int Tryz.underlying3 (by go_wf)) ?_; intro w2 hown hgrow))
      have HN2 : Hid (atD (s.auths.take (k + 1)).reverse = (atD (s.auths.take k).reverse).put (.string x) (.lit (.int .i64 (k : Int)))) := by
        show _ = _
        have hlen : (s.auths.take k).reverse.length = k := by rw [List.length_reverse, List.length_take, ← HNA.out]; omega
        rw [List.take_add_one, HX.out, List.reverse_append]
        show (atD (s.auths.take k).reverse).put (.string x) (.lit (.int .i64 ((s.auths.take k).reverse.length : Int))) = _
        rw [hlen]
      have HO5 : Hid (Owns w w2 (envP b9 bm (k + 1) (atD (s.auths.take (k + 1)).reverse) br ov bx o bl (.slice y N c))) := by
        have e : (bs x).data.toList = x := by simp [bs]
        rw [e] at hown
        rw [HN2.out]
        exact Lib.hid (Owns.mapSet HO.out.swap hown hgrow).swap
      clear hown hgrow HMp h9 q9 HO hg ca
      go_roundg (NA - (k + 1))
      case measure => omega
      case rel => exact ⟨k + 1, rfl, by omega, by go_num, HO5⟩
    · obtain rfl : k = NA := by omega
      have HO5 : Hid (Owns w wr (envP b9 bm k (atD s.auths.reverse) br ov bx o bl (.slice y N c))) := by
        have := HO.out
        rw [HNA.out, List.take_length, ← HNA.out] at this
        exact Lib.hid this
      clear hJ1 hK1 hlt HO
      have HCA := Lib.hid fun (kd : Int) (W : World) (h : Owns w W (envP b9 bm k (atD s.auths.reverse) br ov bx o bl (.slice y N c))) => HCT.out kd k W h.base (ce_of h)
      clear HCT
      have hmm := @run_makeMap Tryz.prog
      obtain ⟨be, hbe⟩ : ∃ b, b = wr.heap.size := ⟨_, rfl⟩
      obtain ⟨W5, hW5⟩ : ∃ W, W = wr.alloc (.map #[] 0) := ⟨_, rfl⟩
      have HO6 : Hid (Owns w W5 (mapP 72 4 be 0 (exD []) :: envP b9 bm k (atD s.auths.reverse) br ov bx o bl (.slice y N c))) := by
        rw [hW5, hbe]
        exact Lib.hid (Owns.mapNew HO5.out 72 4)
      clear HO5
      go_wp2_with fail
      rw [← hW5, ← hbe]
      clear hW5 hbe hmm
      go_at_call 29
      refine (HCA.out 2 W5 HO6.out.pop).mono ?_
      rintro e W6 ⟨v2, L2, rfl, hL2, hks, hrow⟩
      have HK2 := Lib.hid hks
      have HO7 := Lib.hid (Owns.mePush HO6.out hrow)
      have HL2 := Lib.hid hL2
      clear HO6 hrow hL2 hks
      obtain ⟨y2, c2, rfl⟩ := Owns.meForm HO7.out
      have hl2 : L2.length ≤ 1000000 := by
        have h1 := congrArg List.length HL2.out
        rw [List.length_map] at h1
        have h2 : (counting s 2 l).length ≤ l.length := List.length_filter_le _ _
        have := HM.out.len
        omega
      obtain ⟨N2, hN2⟩ : ∃ n, n = L2.length := ⟨_, rfl⟩
      have HN2 := Lib.hid hN2
      rw [← hN2] at HO7 hl2
      simp only []
      rw [← hN2]
      clear hN2
      have HL2m : Hid (∀ p ∈ L2, MeLen p.1) := Lib.hid fun p hp => by
        have h1 : p.1 ∈ counting s 2 l := by rw [← HL2.out]; exact List.mem_map.2 ⟨p, hp, rfl⟩
        exact (HM.out.each p.1 (mem_counting.1 h1).1).1
      go_wp2_with fail
      go_loopg [49] N2 (fun gk i wr => ∃ k2 : Nat, gk = N2 - k2 ∧ k2 ≤ N2 ∧ i = .int .i64 (k2 : Int) ∧ Hid (Owns w wr (meP (.slice y2 N2 c2) L2 :: mapP 72 4 be k2 (exD ((L2.take k2).map fun p => (p.1.auth, p.1.target)).reverse) :: envP b9 bm k (atD s.auths.reverse) br ov bx o bl (.slice y N c))))
      case atStart => exact ⟨0, rfl, Nat.zero_le _, rfl, HO7⟩
      case round =>
        rename_i J2 K2 hJ2 hK2
        clear HO7
        obtain ⟨k2, rfl, hk2, rfl, HO⟩ := hrel
        by_cases hlt : k2 < N2
        · obtain ⟨p, hp⟩ : ∃ p, L2[k2]? = some p := ⟨_, List.getElem?_eq_getElem (by rw [← HN2.out]; exact hlt)⟩
          obtain ⟨g, rfl, hg, c0, c1, d2, c3, c4, c5, c6, c7, c8, c9, c10, c11⟩ := Owns.meGet HO.out hp
          have HX := Lib.hid hp
          have HXm := Lib.hid (HL2m.out p (List.mem_of_getElem? hp))
          obtain ⟨ky, kn, kc, hkv⟩ := HK2.out p (List.mem_of_getElem? hp)
          obtain ⟨m, kv⟩ := p
          dsimp only at hkv
          subst hkv
          dsimp only at c0 c1 d2 c3 c4 c5 c6 c7 c8 c9 c10 c11 HXm
          clear hp
          obtain ⟨W7, hW7⟩ : ∃ W, W = wr.alloc (mobj m (.slice ky kn kc)) := ⟨_, rfl⟩
          have HO8 := Lib.hid ((HO.out.alloc (mobj m (.slice ky kn kc))).swap)
          have HMp := Lib.hid (Owns.mapAt HO8.out).1
          go_wp2_with (first | (at_mapUpdate; refine wpList_mapUpdate_own _ rfl _ _ _ 70 rfl 72 4 key_target Tryz.underlying70 _ be k2 (exD ((L2.take k2).map fun p => (p.1.auth, p.1.target)).reverse) rfl HMp.out (by unfold maxLen; omega) _ _ _ rfl rfl (keyOf_target (by have := HXm.out.auth; unfold maxLen; omega) (by have := HXm.out.target; unfold maxLen; omega)) (.lit (.bool true)) [] (plainElem_bool Tryz.underlying4 true) ?_; intro w2 hown hgrow))
          have HO9 : Hid (Owns w w2 (meP (.slice (some ⟨g, 0, none⟩) N2 c2) L2 :: mapP 72 4 be (k2 + 1) (exD ((L2.take (k2 + 1)).map fun p => (p.1.auth, p.1.target)).reverse) :: envP b9 bm k (atD s.auths.reverse) br ov bx o bl (.slice y N c))) := by
            rw [map_next HX.out]
            exact Lib.hid (Owns.mapSet HO8.out hown hgrow).swap
          clear hown hgrow HMp HO HO8 hg c0 c1 d2 c3 c4 c5 c6 c7 c8 c9 c10 c11 hW7
          go_roundg (N2 - (k2 + 1))
          case measure => omega
          case rel => exact ⟨k2 + 1, rfl, by omega, by go_num, HO9⟩
        · obtain rfl : k2 = N2 := by omega
          have HEX : Hid (((L2.map fun p => (p.1.auth, p.1.target)).reverse) = (exempts s l).reverse) := by
            show _ = _
            unfold exempts
            rw [← HL2.out, List.map_map]
            rfl
          have HO9 : Hid (Owns w wr (mapP 72 4 be k2 (exD (exempts s l).reverse) :: envP b9 bm k (atD s.auths.reverse) br ov bx o bl (.slice y N c))) := by
            have := HO.out.pop
            rw [HN2.out, List.take_length, ← HN2.out, HEX.out] at this
            exact Lib.hid this
          have HXL : Hid (TkLen (exempts s l).reverse) := Lib.hid fun p hp => by
            rw [List.mem_reverse] at hp
            obtain ⟨m, hm, rfl⟩ := List.mem_map.1 hp
            have h1 := (HM.out.each m (mem_counting.1 hm).1).1
            exact ⟨by show m.auth.length ≤ _; have := h1.auth; unfold maxLen; omega, by show m.target.length ≤ _; have := h1.target; unfold maxLen; omega⟩
          clear hJ2 hK2 hlt HO HEX HL2 HK2 HL2m
          clear HN2
          have hmm := @run_makeMap Tryz.prog
          obtain ⟨bg, hbg⟩ : ∃ b, b = wr.heap.size := ⟨_, rfl⟩
          obtain ⟨W7, hW7⟩ : ∃ W, W = wr.alloc (.map #[] 0) := ⟨_, rfl⟩
          have HO10 : Hid (Owns w W7 (mapP 9 4 bg 0 (seenD []) :: mapP 72 4 be k2 (exD (exempts s l).reverse) :: envP b9 bm k (atD s.auths.reverse) br ov bx o bl (.slice y N c))) := by
            rw [hW7, hbg]
            exact Lib.hid (Owns.mapNew HO9.out 9 4)
          clear HO9
          go_wp2_with fail
          rw [← hW7, ← hbg]
          clear hW7 hbg hmm
          go_at_call 29
          refine (HCA.out 1 W7 HO10.out.pop.pop).mono ?_
          rintro e W8 ⟨v3, L3, rfl, hL3, hks, hrow⟩
          have HK3 := Lib.hid hks
          have HO11 := Lib.hid (Owns.mePush HO10.out hrow)
          have HL3 := Lib.hid hL3
          clear HO10 hrow hL3 hks
          obtain ⟨y3, c3, rfl⟩ := Owns.meForm HO11.out
          have hl3 : L3.length ≤ 1000000 := by
            have h1 := congrArg List.length HL3.out
            rw [List.length_map] at h1
            have h2 : (counting s 1 l).length ≤ l.length := List.length_filter_le _ _
            have := HM.out.len
            omega
          obtain ⟨N3, hN3⟩ : ∃ n, n = L3.length := ⟨_, rfl⟩
          have HN3 := Lib.hid hN3
          rw [← hN3] at HO11 hl3
          simp only []
          rw [← hN3]
          clear hN3
          have HL3m : Hid (∀ p ∈ L3, MeLen p.1) := Lib.hid fun p hp => by
            have h1 : p.1 ∈ counting s 1 l := by rw [← HL3.out]; exact List.mem_map.2 ⟨p, hp, rfl⟩
            exact (HM.out.each p.1 (mem_counting.1 h1).1).1
          obtain ⟨q1, hq1⟩ : ∃ q : Me × Value → Bool, q = fun p => !(exempts s l).contains (p.1.auth, p.1.id) := ⟨_, rfl⟩
          obtain ⟨q2, hq2⟩ : ∃ q : Me × Value → Bool, q = fun p => !cov.contains p.1.id := ⟨_, rfl⟩
          have HQ1 := Lib.hid hq1
          have HQ2 := Lib.hid hq2
          clear hq1 hq2
          obtain ⟨A, hA0⟩ : ∃ A : Nat → List Bytes, A = fun j => ((L3.take j).filter q1).map fun p => p.1.id := ⟨_, rfl⟩
          obtain ⟨B, hB0⟩ : ∃ A : Nat → List Bytes, A = fun j => ((L3.take j).filter fun p => q2 p && q1 p).map fun p => p.1.id := ⟨_, rfl⟩
          obtain ⟨G, hG0⟩ : ∃ A : Nat → List Bytes, A = fun j => (((L3.take j).filter fun p => q2 p && q1 p).map fun p => p.1.auth).reverse := ⟨_, rfl⟩
          have HA0 := Lib.hid hA0
          have HB0 := Lib.hid hB0
          have HG0 := Lib.hid hG0
          have HO12 : Hid (Owns w W8 (txP (.slice none 0 0) (A 0) :: txP (.slice none 0 0) (B 0) :: meP (.slice y3 N3 c3) L3 :: mapP 9 4 bg 0 (seenD (G 0)) :: mapP 72 4 be k2 (exD (exempts s l).reverse) :: envP b9 bm k (atD s.auths.reverse) br ov bx o bl (.slice y N c))) := by
            rw [hA0, hB0, hG0]
            exact Lib.hid HO11.out.txNew.txNew
          clear hA0 hB0 hG0 HO11
          go_wp2_with fail
          go_loopg [16, 17, 64] N3 (fun gk va vb i wr => ∃ k3 n3 : Nat, gk = N3 - k3 ∧ k3 ≤ N3 ∧ i = .int .i64 (k3 : Int) ∧ Hid ((A k3).length ≤ k3 ∧ (B k3).length ≤ k3) ∧ n3 ≤ k3 ∧ Hid (Owns w wr (txP va (A k3) :: txP vb (B k3) :: meP (.slice y3 N3 c3) L3 :: mapP 9 4 bg n3 (seenD (G k3)) :: mapP 72 4 be k2 (exD (exempts s l).reverse) :: envP b9 bm k (atD s.auths.reverse) br ov bx o bl (.slice y N c))))
          case atStart => exact ⟨0, 0, rfl, Nat.zero_le _, rfl, by rw [HA0.out, HB0.out]; exact Lib.hid ⟨by simp, by simp⟩, Nat.le_refl _, HO12⟩
          case round =>
            rename_i J3 K3 hJ3 hK3
            clear HO12
            obtain ⟨k3, n3, rfl, hk3, rfl, HLe, hn3, HO⟩ := hrel
            by_cases hlt : k3 < N3
            · obtain ⟨p, hp⟩ : ∃ p, L3[k3]? = some p := ⟨_, List.getElem?_eq_getElem (by rw [← HN3.out]; exact hlt)⟩
              obtain ⟨g3, rfl, hg, d0, d1, d2, d3, d4, d5, d6, d7, d8, d9, d10, d11⟩ := Owns.meGet HO.out.pop.pop hp
              have HX := Lib.hid hp
              have HXm := Lib.hid (HL3m.out p (List.mem_of_getElem? hp))
              obtain ⟨ky, kn, kc, hkv⟩ := HK3.out p (List.mem_of_getElem? hp)
              obtain ⟨m, kv⟩ := p
              dsimp only at hkv
              subst hkv
              dsimp only at d0 d1 d2 d3 d4 d5 d6 d7 d8 d9 d10 d11 HXm
              clear hp
              have HO13 := Lib.hid (HO.out.box (mobj m (.slice ky kn kc)))
              have hrun := look_bool (key := .agg #[.string (bs m.auth), .string (bs m.id)]) (q := (exempts s l).contains (m.auth, m.id)) (Owns.mapAt (Owns.drop HO13.out 5)).1 key_target Tryz.underlying70 (keyOf_target (by have := HXm.out.auth; unfold maxLen; omega) (by have := HXm.out.id; unfold maxLen; omega)) (by rw [ex_at (by have := HXm.out.auth; unfold maxLen; omega) (by have := HXm.out.id; unfold maxLen; omega) _ HXL.out, contains_reverse])
              have hv1 : q1 (m, .slice ky kn kc) = !(exempts s l).contains (m.auth, m.id) := by rw [HQ1.out]
              have hv2 : q2 (m, .slice ky kn kc) = !cov.contains m.id := by rw [HQ2.out]
              have HV2 := Lib.hid hv2
              obtain ⟨x1, hx1⟩ : ∃ x, x = (exempts s l).contains (m.auth, m.id) := ⟨_, rfl⟩
              rw [← hx1] at hrun hv1
              dsimp only [mobj] at hrun
              have HV1 := Lib.hid hv1
              clear hx1 hv1 hv2
              cases x1
              rotate_left
              · have e1 : Hid (A (k3 + 1) = A k3) := by show _ = _; rw [HA0.out]; dsimp only; rw [filter_next HX.out, HV1.out]; simp
                have e2 : Hid (B (k3 + 1) = B k3) := by show _ = _; rw [HB0.out]; dsimp only; rw [filter_next HX.out, HV1.out]; simp
                have e3 : Hid (G (k3 + 1) = G k3) := by show _ = _; rw [HG0.out]; dsimp only; rw [filter_next HX.out, HV1.out]; simp
                go_wp2_with fail
                clear hrun hg d0 d1 d2 d3 d4 d5 d6 d7 d8 d9 d10 d11
                go_roundg (N3 - (k3 + 1))
                case measure => omega
                case rel => exact ⟨k3 + 1, n3, rfl, by omega, by go_num, by rw [e1.out, e2.out]; exact Lib.hid ⟨Nat.le_succ_of_le HLe.out.1, Nat.le_succ_of_le HLe.out.2⟩, by omega, by rw [e1.out, e2.out, e3.out]; exact Lib.hid HO13.out.pop⟩
              have e1 : Hid (A (k3 + 1) = A k3 ++ [m.id]) := by show _ = _; rw [HA0.out]; dsimp only; rw [filter_next HX.out, HV1.out]; simp
              obtain ⟨sa, sn, sc, rfl⟩ : ∃ a n c, u16 = .slice a n c := by obtain ⟨y, c, e, -⟩ := HO.out.txIs; exact ⟨y, _, c, e⟩
              have HW := Lib.hid (HO13.out.alloc (.cells #[.string (bs m.id)] 9))
              have hAl := HLe.out.1
              go_wp2_with (refine wpList_plain rfl fun K hK => wp_append (.tmp 75) (.tmp 78) 26 (by rfl) 9 _ 1 16 Tryz.underlying26 info_txt (by rfl) (by omega) _ (A k3).length _ (by rfl) (Owns.txRow HW.out.pop) (wr.heap.size + 1) 1 1 [.string (bs m.id)] (by rfl) (by rfl) 9 (by exact new_heap (wr.alloc _) _ _ (by simp)) (by simp [Value.oneCell']) (by omega) (by omega) ?_; intro v' w2 hrow hgrow hblk; have ho14 := (Owns.txGrew (l' := A k3 ++ [m.id]) HW.out.swap (by simpa [txs] using hrow) hgrow hblk).swap; have HO14 := Lib.hid ho14; clear ho14 hrow hgrow hblk; obtain ⟨bk, -⟩ := HO14.out.blk; have h8 := lt_of_block bk; have e80 := cell_of_heap bk (i := 0); have e81 := cell_of_heap bk (i := 1); simp only [List.getElem?_toArray, List.getElem?_cons_succ, List.getElem?_cons_zero] at e80 e81; clear bk)
              go_at_call 32
              refine (cov_c cov yk NK mk m.id w2 (HCv.out.later HO14.out.base) hcl).mono ?_
              rintro e w3 ⟨rfl, hw⟩
              subst hw
              obtain ⟨x2, hx2⟩ : ∃ x, x = cov.contains m.id := ⟨_, rfl⟩
              have hv2 := HV2.out
              rw [← hx2] at hv2 ⊢
              have HV3 := Lib.hid hv2
              clear hx2 hv2 HV2 hrun hg d0 d1 d2 d3 d4 d5 d6 d7 d8 d9 d10 d11
              cases x2
              rotate_left
              · have e2 : Hid (B (k3 + 1) = B k3) := by show _ = _; rw [HB0.out]; dsimp only; rw [filter_next HX.out, HV3.out]; simp
                have e3 : Hid (G (k3 + 1) = G k3) := by show _ = _; rw [HG0.out]; dsimp only; rw [filter_next HX.out, HV3.out]; simp
                go_wp2_with fail
                clear h8 e80 e81
                go_roundg (N3 - (k3 + 1))
                case measure => omega
                case rel => exact ⟨k3 + 1, n3, rfl, by omega, by go_num, by rw [e1.out, e2.out]; exact Lib.hid ⟨by rw [List.length_append]; exact Nat.succ_le_succ HLe.out.1, Nat.le_succ_of_le HLe.out.2⟩, by omega, by rw [e1.out, e2.out, e3.out]; exact Lib.hid HO14.out.pop⟩
              have e2 : Hid (B (k3 + 1) = B k3 ++ [m.id]) := by show _ = _; rw [HB0.out]; dsimp only; rw [filter_next HX.out, HV3.out, HV1.out]; simp
              have e3 : Hid (G (k3 + 1) = m.auth :: G k3) := by show _ = _; rw [HG0.out]; dsimp only; rw [filter_next HX.out, HV3.out, HV1.out]; simp
              obtain ⟨sb, sn2, sc2, rfl⟩ : ∃ a n c, u17 = .slice a n c := by obtain ⟨y, c, e, -⟩ := HO.out.pop.txIs; exact ⟨y, _, c, e⟩
              have HW2 : Hid (Owns w (w3.alloc (.cells #[.string (bs m.id)] 9)) (txP (.slice sb sn2 sc2) (B k3) :: blk wr.heap.size (mobj m (.slice ky kn kc)) :: txP v' (A k3 ++ [m.id]) :: meP (.slice (some ⟨g3, 0, none⟩) N3 c3) L3 :: mapP 9 4 bg n3 (seenD (G k3)) :: mapP 72 4 be k2 (exD (exempts s l).reverse) :: envP b9 bm k (atD s.auths.reverse) br ov bx o bl (.slice y N c))) := Lib.hid ((HO14.out.re [2, 0, 1]).alloc _)
              have hBl := HLe.out.2
              go_wp2_with (first | (refine wpList_plain rfl fun K hK => wp_append (.tmp 85) (.tmp 88) 26 (by rfl) 9 _ 1 16 Tryz.underlying26 info_txt (by rfl) (by omega) _ (B k3).length _ (by rfl) (Owns.txRow HW2.out) (w3.heap.size) 1 1 [.string (bs m.id)] (by rfl) (by rfl) 9 (by exact new_heap w3 _ _ rfl) (by simp [Value.oneCell']) (by omega) (by omega) ?_; intro v2' w4 hrow hgrow hblk; have ho15 := (Owns.txGrew (l' := B k3 ++ [m.id]) HW2.out (by simpa [txs] using hrow) hgrow hblk); have HO15 : Hid (Owns w w4 (mapP 9 4 bg n3 (seenD (G k3)) :: blk wr.heap.size (mobj m (.slice ky kn kc)) :: txP v' (A k3 ++ [m.id]) :: txP v2' (B k3 ++ [m.id]) :: meP (.slice (some ⟨g3, 0, none⟩) N3 c3) L3 :: mapP 72 4 be k2 (exD (exempts s l).reverse) :: envP b9 bm k (atD s.auths.reverse) br ov bx o bl (.slice y N c))) := Lib.hid (ho15.re [4, 1, 2, 0, 3]); clear ho15 hrow hgrow hblk h8 e80 e81; obtain ⟨bk, -⟩ := Owns.blk (Owns.drop HO15.out 1); have h8 := lt_of_block bk; have e81 := cell_of_heap bk (i := 1); simp only [List.getElem?_toArray, List.getElem?_cons_succ, List.getElem?_cons_zero] at e81; clear bk; have HMp := Lib.hid (Owns.mapAt HO15.out).1) | (at_mapUpdate; refine wpList_mapUpdate_own _ rfl _ _ _ 73 rfl 9 4 key_str Tryz.underlying73 _ bg n3 (seenD (G k3)) rfl HMp.out (by unfold maxLen; omega) _ _ _ rfl rfl (keyOf_string_mk Tryz.underlying9 (s := bs m.auth) (by rw [bs_size]; have := HXm.out.auth; unfold maxLen; omega)) (.lit (.bool true)) [] (plainElem_bool Tryz.underlying4 true) ?_; intro w5 hown hgrow))
              have HO16 : Hid (Owns w w5 (txP v' (A (k3 + 1)) :: txP v2' (B (k3 + 1)) :: meP (.slice (some ⟨g3, 0, none⟩) N3 c3) L3 :: mapP 9 4 bg (n3 + 1) (seenD (G (k3 + 1))) :: mapP 72 4 be k2 (exD (exempts s l).reverse) :: envP b9 bm k (atD s.auths.reverse) br ov bx o bl (.slice y N c))) := by
                have e : (bs m.auth).data.toList = m.auth := by simp [bs]
                rw [e] at hown
                rw [e1.out, e2.out, e3.out]
                exact Lib.hid ((Owns.mapSet HO15.out hown hgrow).re [1, 2, 3, 4, 0]).pop
              clear hown hgrow HMp h8 e81 HO15 HO14 HW2 HW HO13 HO
              go_roundg (N3 - (k3 + 1))
              case measure => omega
              case rel => exact ⟨k3 + 1, n3 + 1, rfl, by omega, by go_num, by rw [e1.out, e2.out]; exact Lib.hid ⟨by rw [List.length_append]; exact Nat.succ_le_succ HLe.out.1, by rw [List.length_append]; exact Nat.succ_le_succ HLe.out.2⟩, by omega, HO16⟩
            · obtain rfl : k3 = N3 := by omega
              have HAe : Hid (A k3 = (forbs s l).map Me.id) := by
                show _ = _
                rw [HA0.out, HN3.out]
                dsimp only
                rw [List.take_length]
                unfold forbs
                rw [← HL3.out, List.filter_map, List.map_map, HQ1.out]
                rfl
              have HBe : Hid (B k3 = (leftM s l cov).map Me.id) := by
                show _ = _
                rw [HB0.out, HN3.out]
                dsimp only
                rw [List.take_length]
                unfold leftM forbs
                rw [← HL3.out, List.filter_filter, List.filter_map, List.map_map, HQ1.out, HQ2.out]
                rfl
              have HGe : Hid (G k3 = ((leftM s l cov).map Me.auth).reverse) := by
                show _ = _
                rw [HG0.out, HN3.out]
                dsimp only
                rw [List.take_length]
                unfold leftM forbs
                rw [← HL3.out, List.filter_filter, List.filter_map, List.map_map, HQ1.out, HQ2.out]
                rfl
              obtain ⟨AA, hAA⟩ : ∃ x, x = A k3 := ⟨_, rfl⟩
              obtain ⟨BB, hBB⟩ : ∃ x, x = B k3 := ⟨_, rfl⟩
              obtain ⟨GG, hGG⟩ : ∃ x, x = G k3 := ⟨_, rfl⟩
              rw [← hAA] at HAe
              rw [← hBB] at HBe
              rw [← hGG] at HGe
              have HO17 : Hid (Owns w wr (mapP 9 4 bg n3 (seenD GG) :: txP u16 AA :: txP u17 BB :: mapP 72 4 be k2 (exD (exempts s l).reverse) :: envP b9 bm k (atD s.auths.reverse) br ov bx o bl (.slice y N c))) := by
                rw [hAA, hBB, hGG]
                exact Lib.hid (HO.out.re [2, 3, 0, 1]).pop
              clear hJ3 hK3 hlt HO HL3 HK3 HL3m HN3 HQ1 HQ2 HA0 HB0 HG0 HXL HLe hAA hBB hGG
              go_wp2_with fail
              go_at_call 29
              refine (HCA.out 3 wr HO17.out.pop.pop.pop.pop).mono ?_
              rintro e W10 ⟨v4, L4, rfl, hL4, hks, hrow⟩
              have HK4 := Lib.hid hks
              have HO18 := Lib.hid (Owns.mePush HO17.out hrow)
              have HL4 := Lib.hid hL4
              clear HO17 hrow hL4 hks
              obtain ⟨y4, c4, rfl⟩ := Owns.meForm HO18.out
              have hl4 : L4.length ≤ 1000000 := by
                have h1 := congrArg List.length HL4.out
                rw [List.length_map] at h1
                have h2 : (counting s 3 l).length ≤ l.length := List.length_filter_le _ _
                have := HM.out.len
                omega
              obtain ⟨N4, hN4⟩ : ∃ n, n = L4.length := ⟨_, rfl⟩
              have HN4 := Lib.hid hN4
              rw [← hN4] at HO18 hl4
              simp only []
              rw [← hN4]
              clear hN4
              have HL4m : Hid (∀ p ∈ L4, MeLen p.1) := Lib.hid fun p hp => by
                have h1 : p.1 ∈ counting s 3 l := by rw [← HL4.out]; exact List.mem_map.2 ⟨p, hp, rfl⟩
                exact (HM.out.each p.1 (mem_counting.1 h1).1).1
              obtain ⟨q3, hq3⟩ : ∃ q : Me × Value → Bool, q = fun p => ((leftM s l cov).map Me.auth).contains p.1.target := ⟨_, rfl⟩
              have HQ3 := Lib.hid hq3
              clear hq3
              obtain ⟨C, hC0⟩ : ∃ A : Nat → List Bytes, A = fun j => ((L4.take j).filter q3).map fun p => p.1.id := ⟨_, rfl⟩
              have HC0 := Lib.hid hC0
              have HO19 : Hid (Owns w W10 (txP (.slice none 0 0) (C 0) :: meP (.slice y4 N4 c4) L4 :: mapP 9 4 bg n3 (seenD GG) :: txP u16 AA :: txP u17 BB :: mapP 72 4 be k2 (exD (exempts s l).reverse) :: envP b9 bm k (atD s.auths.reverse) br ov bx o bl (.slice y N c))) := by
                rw [hC0]
                exact Lib.hid HO18.out.txNew
              clear hC0 HO18
              go_wp2_with fail
              go_loopg [18, 97] N4 (fun gk va i wr => ∃ k4 : Nat, gk = N4 - k4 ∧ k4 ≤ N4 ∧ i = .int .i64 (k4 : Int) ∧ Hid ((C k4).length ≤ k4) ∧ Hid (Owns w wr (txP va (C k4) :: meP (.slice y4 N4 c4) L4 :: mapP 9 4 bg n3 (seenD GG) :: txP u16 AA :: txP u17 BB :: mapP 72 4 be k2 (exD (exempts s l).reverse) :: envP b9 bm k (atD s.auths.reverse) br ov bx o bl (.slice y N c))))
              case atStart => exact ⟨0, rfl, Nat.zero_le _, rfl, by rw [HC0.out]; exact Lib.hid (by simp), HO19⟩
              case round =>
                rename_i J4 K4 hJ4 hK4
                clear HO19
                obtain ⟨k4, rfl, hk4, rfl, HLe, HO⟩ := hrel
                by_cases hlt : k4 < N4
                · obtain ⟨p, hp⟩ : ∃ p, L4[k4]? = some p := ⟨_, List.getElem?_eq_getElem (by rw [← HN4.out]; exact hlt)⟩
                  obtain ⟨g4, rfl, hg, d0, d1, d2, d3, d4, d5, d6, d7, d8, d9, d10, d11⟩ := Owns.meGet HO.out.pop hp
                  have HX := Lib.hid hp
                  have HXm := Lib.hid (HL4m.out p (List.mem_of_getElem? hp))
                  obtain ⟨ky, kn, kc, hkv⟩ := HK4.out p (List.mem_of_getElem? hp)
                  obtain ⟨m, kv⟩ := p
                  dsimp only at hkv
                  subst hkv
                  dsimp only at d0 d1 d2 d3 d4 d5 d6 d7 d8 d9 d10 d11 HXm
                  clear hp
                  have HO13 := Lib.hid (HO.out.box (mobj m (.slice ky kn kc)))
                  have hrun := look_bool (key := .string (bs m.target)) (q := ((leftM s l cov).map Me.auth).contains m.target) (Owns.mapAt (Owns.drop HO13.out 3)).1 key_str Tryz.underlying73 (keyOf_string_mk Tryz.underlying9 (s := bs m.target) (by rw [bs_size]; have := HXm.out.target; unfold maxLen; omega)) (by rw [show (bs m.target).data.toList = m.target by simp [bs], seen_at, HGe.out, contains_reverse])
                  have hv1 : q3 (m, .slice ky kn kc) = ((leftM s l cov).map Me.auth).contains m.target := by rw [HQ3.out]
                  obtain ⟨x1, hx1⟩ : ∃ x, x = ((leftM s l cov).map Me.auth).contains m.target := ⟨_, rfl⟩
                  rw [← hx1] at hrun hv1
                  dsimp only [mobj] at hrun
                  have HV1 := Lib.hid hv1
                  clear hx1 hv1
                  cases x1
                  · have e1 : Hid (C (k4 + 1) = C k4) := by show _ = _; rw [HC0.out]; dsimp only; rw [filter_next HX.out, HV1.out]; simp
                    go_wp2_with fail
                    clear hrun hg d0 d1 d2 d3 d4 d5 d6 d7 d8 d9 d10 d11
                    go_roundg (N4 - (k4 + 1))
                    case measure => omega
                    case rel => exact ⟨k4 + 1, rfl, by omega, by go_num, by rw [e1.out]; exact Lib.hid (Nat.le_succ_of_le HLe.out), by rw [e1.out]; exact Lib.hid HO13.out.pop⟩
                  have e1 : Hid (C (k4 + 1) = C k4 ++ [m.id]) := by show _ = _; rw [HC0.out]; dsimp only; rw [filter_next HX.out, HV1.out]; simp
                  obtain ⟨sa, sn, sc, rfl⟩ : ∃ a n c, u18 = .slice a n c := by obtain ⟨y, c, e, -⟩ := HO.out.txIs; exact ⟨y, _, c, e⟩
                  have HW := Lib.hid (HO13.out.alloc (.cells #[.string (bs m.id)] 9))
                  have hCl := HLe.out
                  go_wp2_with (refine wpList_plain rfl fun K hK => wp_append (.tmp 105) (.tmp 108) 26 (by rfl) 9 _ 1 16 Tryz.underlying26 info_txt (by rfl) (by omega) _ (C k4).length _ (by rfl) (Owns.txRow HW.out.pop) (wr.heap.size + 1) 1 1 [.string (bs m.id)] (by rfl) (by rfl) 9 (by exact new_heap (wr.alloc _) _ _ (by simp)) (by simp [Value.oneCell']) (by omega) (by omega) ?_; intro v' w2 hrow hgrow hblk; have ho14 := (Owns.txGrew (l' := C k4 ++ [m.id]) HW.out.swap (by simpa [txs] using hrow) hgrow hblk).swap; have HO14 := Lib.hid ho14.pop; clear ho14 hrow hgrow hblk)
                  clear hrun hg d0 d1 d2 d3 d4 d5 d6 d7 d8 d9 d10 d11 HW HO13 HO
                  go_roundg (N4 - (k4 + 1))
                  case measure => omega
                  case rel => exact ⟨k4 + 1, rfl, by omega, by go_num, by rw [e1.out]; exact Lib.hid (by show _ ≤ _; rw [List.length_append]; exact Nat.succ_le_succ HLe.out), by rw [e1.out]; exact HO14⟩
                · obtain rfl : k4 = N4 := by omega
                  have HCe : Hid (C k4 = (blocksM s l cov).map Me.id) := by
                    show _ = _
                    rw [HC0.out, HN4.out]
                    dsimp only
                    rw [List.take_length]
                    unfold blocksM
                    rw [← HL4.out, List.filter_map, List.map_map, HQ3.out]
                    rfl
                  obtain ⟨CC, hCC⟩ : ∃ x, x = C k4 := ⟨_, rfl⟩
                  rw [← hCC] at HCe HO HLe
                  have HE : Hid (licensedV l s cov = (verdictOf AA BB CC, 0)) := by
                    show _ = _
                    unfold licensedV
                    rw [HK0.out, if_neg (by simp), HAe.out, HBe.out, HCe.out]
                  have HO20 : Hid (Owns w wr (blk br (vobj 0 (.slice none 0 0) (.slice none 0 0)) :: txP u18 CC :: txP u16 AA :: txP u17 BB :: meP (.slice y4 k4 c4) L4 :: mapP 9 4 bg n3 (seenD GG) :: mapP 72 4 be k2 (exD (exempts s l).reverse) :: one b9 61 (.map (some bm)) :: mapP 9 3 bm k (atD s.auths.reverse) :: blk bx o :: one bl 22 (.slice y N c) :: [])) := by
                    rw [← HOv.out]
                    exact Lib.hid (HO.out.re [8, 0, 3, 4, 1, 2, 5, 6, 7])
                  clear hJ4 hK4 hlt HO HL4 HK4 HL4m HN4 HQ3 HC0 HAe HBe HCe HGe HLe hCC HK0 HCA
                  replace HO := HO20
                  clear HO20
                  obtain ⟨ya1, ca1, rfl, -⟩ := HO.out.pop.pop.txIs
                  obtain ⟨yb1, cb1, rfl, -⟩ := HO.out.pop.pop.pop.txIs
                  obtain ⟨yc1, cc1, rfl, -⟩ := HO.out.pop.txIs
                  obtain ⟨na, hna⟩ : ∃ n, n = AA.length := ⟨_, rfl⟩
                  obtain ⟨nb, hnb⟩ : ∃ n, n = BB.length := ⟨_, rfl⟩
                  obtain ⟨nc, hnc⟩ : ∃ n, n = CC.length := ⟨_, rfl⟩
                  rw [← hna, ← hnb, ← hnc] at HO ⊢
                  have HNa := Lib.hid hna
                  have HNb := Lib.hid hnb
                  have HNc := Lib.hid hnc
                  clear hna hnb hnc
                  obtain ⟨bk, -⟩ := Owns.blk (HO.out)
                  have hb0 := lt_of_block bk
                  have e0 := cell_of_heap bk (i := 0)
                  have e1 := cell_of_heap bk (i := 1)
                  have e2 := cell_of_heap bk (i := 2)
                  simp only [List.getElem?_toArray, List.getElem?_cons_succ, List.getElem?_cons_zero] at e0 e1 e2
                  have f0 := free_of_heap bk (i := 0)
                  have f1 := free_of_heap bk (i := 1)
                  have f2 := free_of_heap bk (i := 2)
                  clear bk
                  by_cases za : na = 0
                  · have za1 : ((na : Int) == 0) = true := by simp; omega
                    have HV : Hid (verdictOf AA BB CC = ⟨1, [], []⟩) := by
                      show _ = _
                      unfold verdictOf
                      rw [if_pos (List.length_eq_zero_iff.1 (HNa.out.symm.trans za))]
                    clear za
                    go_wp2_with fail
                    have ho := ((HO.out.store (i := 0) (.int .i64 1)).store (i := 1) (.slice none 0 0)).store (i := 2) (.slice none 0 0)
                    replace ho : Owns w (((wr.setCell ⟨br, 0, none⟩ (.int .i64 1)).setCell ⟨br, 1, none⟩ (.slice none 0 0)).setCell ⟨br, 2, none⟩ (.slice none 0 0)) (blk br (vobj (1) (.slice none 0 0) (.slice none 0 0)) :: _) := ho
                    clear hb0 e0 e1 e2 f0 f1 f2
                    obtain ⟨W9, hW9⟩ : ∃ W9, W9 = ((wr.setCell ⟨br, 0, none⟩ (.int .i64 1)).setCell ⟨br, 1, none⟩ (.slice none 0 0)).setCell ⟨br, 2, none⟩ (.slice none 0 0) := ⟨_, rfl⟩
                    rw [← hW9] at ho ⊢
                    clear hW9
                    obtain ⟨bk, -⟩ := Owns.blk (ho)
                    have hb0 := lt_of_block bk
                    have e0 := cell_of_heap bk (i := 0)
                    have e1 := cell_of_heap bk (i := 1)
                    have e2 := cell_of_heap bk (i := 2)
                    simp only [List.getElem?_toArray, List.getElem?_cons_succ, List.getElem?_cons_zero] at e0 e1 e2
                    have f0 := free_of_heap bk (i := 0)
                    have f1 := free_of_heap bk (i := 1)
                    have f2 := free_of_heap bk (i := 2)
                    clear bk
                    refine bodyPost_ret (v := .tuple #[.agg #[.int .i64 1, .slice none 0 0, .slice none 0 0], .int .i64 0]) (by simp [results, Tryz.results11, go_sem, e0, e1, e2]) rfl ?_
                    exact ⟨_, _, by rw [HE.out, HV.out]; rfl, by rw [HE.out, HV.out]; exact (Owns.drop ho 11).txNew.txNew⟩
                  have za1 : ((na : Int) == 0) = false := by simp; omega
                  have ZA : Hid (AA ≠ []) := Lib.hid fun h => za (by rw [HNa.out, h]; rfl)
                  clear za
                  by_cases zb : nb = 0
                  · have zb1 : ((nb : Int) == 0) = true := by simp; omega
                    have HV : Hid (verdictOf AA BB CC = ⟨4, AA, []⟩) := by
                      show _ = _
                      unfold verdictOf
                      rw [if_neg ZA.out, if_pos (List.length_eq_zero_iff.1 (HNb.out.symm.trans zb))]
                    clear zb
                    go_wp2_with fail
                    have ho := ((HO.out.store (i := 0) (.int .i64 4)).store (i := 1) (.slice ya1 na ca1)).store (i := 2) (.slice none 0 0)
                    replace ho : Owns w (((wr.setCell ⟨br, 0, none⟩ (.int .i64 4)).setCell ⟨br, 1, none⟩ (.slice ya1 na ca1)).setCell ⟨br, 2, none⟩ (.slice none 0 0)) (blk br (vobj (4) (.slice ya1 na ca1) (.slice none 0 0)) :: _) := ho
                    clear hb0 e0 e1 e2 f0 f1 f2
                    obtain ⟨W9, hW9⟩ : ∃ W9, W9 = ((wr.setCell ⟨br, 0, none⟩ (.int .i64 4)).setCell ⟨br, 1, none⟩ (.slice ya1 na ca1)).setCell ⟨br, 2, none⟩ (.slice none 0 0) := ⟨_, rfl⟩
                    rw [← hW9] at ho ⊢
                    clear hW9
                    obtain ⟨bk, -⟩ := Owns.blk (ho)
                    have hb0 := lt_of_block bk
                    have e0 := cell_of_heap bk (i := 0)
                    have e1 := cell_of_heap bk (i := 1)
                    have e2 := cell_of_heap bk (i := 2)
                    simp only [List.getElem?_toArray, List.getElem?_cons_succ, List.getElem?_cons_zero] at e0 e1 e2
                    have f0 := free_of_heap bk (i := 0)
                    have f1 := free_of_heap bk (i := 1)
                    have f2 := free_of_heap bk (i := 2)
                    clear bk
                    refine bodyPost_ret (v := .tuple #[.agg #[.int .i64 4, .slice ya1 na ca1, .slice none 0 0], .int .i64 0]) (by simp [results, Tryz.results11, go_sem, e0, e1, e2]) rfl ?_
                    exact ⟨_, _, by rw [HE.out, HV.out]; rfl, by rw [HE.out, HV.out]; exact (Owns.cut (ps := [_]) (ho.re [2, 0, 1])).txNew.swap⟩
                  have zb1 : ((nb : Int) == 0) = false := by simp; omega
                  have ZB : Hid (BB ≠ []) := Lib.hid fun h => zb (by rw [HNb.out, h]; rfl)
                  clear zb
                  by_cases zc : nc = 0
                  · have zc1 : ((nc : Int) == 0) = true := by simp; omega
                    have HV : Hid (verdictOf AA BB CC = ⟨2, BB, []⟩) := by
                      show _ = _
                      unfold verdictOf
                      rw [if_neg ZA.out, if_neg ZB.out, if_pos (List.length_eq_zero_iff.1 (HNc.out.symm.trans zc))]
                    clear zc
                    go_wp2_with fail
                    have ho := ((HO.out.store (i := 0) (.int .i64 2)).store (i := 1) (.slice yb1 nb cb1)).store (i := 2) (.slice none 0 0)
                    replace ho : Owns w (((wr.setCell ⟨br, 0, none⟩ (.int .i64 2)).setCell ⟨br, 1, none⟩ (.slice yb1 nb cb1)).setCell ⟨br, 2, none⟩ (.slice none 0 0)) (blk br (vobj (2) (.slice yb1 nb cb1) (.slice none 0 0)) :: _) := ho
                    clear hb0 e0 e1 e2 f0 f1 f2
                    obtain ⟨W9, hW9⟩ : ∃ W9, W9 = ((wr.setCell ⟨br, 0, none⟩ (.int .i64 2)).setCell ⟨br, 1, none⟩ (.slice yb1 nb cb1)).setCell ⟨br, 2, none⟩ (.slice none 0 0) := ⟨_, rfl⟩
                    rw [← hW9] at ho ⊢
                    clear hW9
                    obtain ⟨bk, -⟩ := Owns.blk (ho)
                    have hb0 := lt_of_block bk
                    have e0 := cell_of_heap bk (i := 0)
                    have e1 := cell_of_heap bk (i := 1)
                    have e2 := cell_of_heap bk (i := 2)
                    simp only [List.getElem?_toArray, List.getElem?_cons_succ, List.getElem?_cons_zero] at e0 e1 e2
                    have f0 := free_of_heap bk (i := 0)
                    have f1 := free_of_heap bk (i := 1)
                    have f2 := free_of_heap bk (i := 2)
                    clear bk
                    refine bodyPost_ret (v := .tuple #[.agg #[.int .i64 2, .slice yb1 nb cb1, .slice none 0 0], .int .i64 0]) (by simp [results, Tryz.results11, go_sem, e0, e1, e2]) rfl ?_
                    exact ⟨_, _, by rw [HE.out, HV.out]; rfl, by rw [HE.out, HV.out]; exact (Owns.cut (ps := [_]) (ho.re [3, 0, 1, 2])).txNew.swap⟩
                  have zc1 : ((nc : Int) == 0) = false := by simp; omega
                  have HV : Hid (verdictOf AA BB CC = ⟨3, BB, CC⟩) := by
                    show _ = _
                    unfold verdictOf
                    rw [if_neg ZA.out, if_neg ZB.out, if_neg (fun h => zc (by rw [HNc.out, h]; rfl))]
                  clear zc
                  go_wp2_with fail
                  have ho := ((HO.out.store (i := 0) (.int .i64 3)).store (i := 1) (.slice yb1 nb cb1)).store (i := 2) (.slice yc1 nc cc1)
                  replace ho : Owns w (((wr.setCell ⟨br, 0, none⟩ (.int .i64 3)).setCell ⟨br, 1, none⟩ (.slice yb1 nb cb1)).setCell ⟨br, 2, none⟩ (.slice yc1 nc cc1)) (blk br (vobj (3) (.slice yb1 nb cb1) (.slice yc1 nc cc1)) :: _) := ho
                  clear hb0 e0 e1 e2 f0 f1 f2
                  obtain ⟨W9, hW9⟩ : ∃ W9, W9 = ((wr.setCell ⟨br, 0, none⟩ (.int .i64 3)).setCell ⟨br, 1, none⟩ (.slice yb1 nb cb1)).setCell ⟨br, 2, none⟩ (.slice yc1 nc cc1) := ⟨_, rfl⟩
                  rw [← hW9] at ho ⊢
                  clear hW9
                  obtain ⟨bk, -⟩ := Owns.blk (ho)
                  have hb0 := lt_of_block bk
                  have e0 := cell_of_heap bk (i := 0)
                  have e1 := cell_of_heap bk (i := 1)
                  have e2 := cell_of_heap bk (i := 2)
                  simp only [List.getElem?_toArray, List.getElem?_cons_succ, List.getElem?_cons_zero] at e0 e1 e2
                  have f0 := free_of_heap bk (i := 0)
                  have f1 := free_of_heap bk (i := 1)
                  have f2 := free_of_heap bk (i := 2)
                  clear bk
                  refine bodyPost_ret (v := .tuple #[.agg #[.int .i64 3, .slice yb1 nb cb1, .slice yc1 nc cc1], .int .i64 0]) (by simp [results, Tryz.results11, go_sem, e0, e1, e2]) rfl ?_
                  exact ⟨_, _, by rw [HE.out, HV.out]; rfl, by rw [HE.out, HV.out]; exact Owns.cut (ps := [_, _]) (ho.re [3, 1, 0, 2])⟩
end Go.Proofs.YtakadfdnhlfijaaGreatDoor
