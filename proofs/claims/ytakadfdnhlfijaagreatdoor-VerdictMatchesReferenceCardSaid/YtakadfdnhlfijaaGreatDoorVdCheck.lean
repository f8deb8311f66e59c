/-
  'check'.
-/
import Derived.Test.YtakadfdnhlfijaaGreatDoorVdProper
import Derived.Test.YtakadfdnhlfijaaGreatDoorVdLaws
namespace Go.Proofs.YtakadfdnhlfijaaGreatDoor
open Go.RowKit Go.Cz Go.Cz.Lx Go.Cz.Fo Go.Cz.Vd
open Go.WideMaps (keyOf_string_mk)
open Go.Cz.Ck (Shift validB)
set_option linter.unusedSimpArgs false
set_option linter.unusedVariables false
attribute [local go_sem] bs_size bs_extract bs_append bs_toList
attribute [local irreducible] cList cPlan
/-- Measures of a moderate size. -/
structure MsLen (l : List Me) : Prop where
  len : l.length ≤ 1000000
  each : ∀ m ∈ l, MeLen m ∧ CoLen m.cond
/-- The Ids of the first measures, the last one first. -/
def idsTo (l : List Me) (k : Nat) : List Bytes := ((l.take k).map Me.id).reverse
theorem idsTo_next {l : List Me} {k : Nat} {m : Me} (h : l[k]? = some m) : idsTo l (k + 1) = m.id :: idsTo l k := by
  unfold idsTo
  rw [List.take_add_one, h]
  simp
theorem first_next {d : List Fact} {l : List Me} {k : Nat} {m : Me} (h : l[k]? = some m) : firstM d (l.drop k) = if validM d m ≠ 0 then validM d m else firstM d (l.drop (k + 1)) := by
  obtain ⟨h1, rfl⟩ := List.getElem?_eq_some_iff.1 h
  rw [List.drop_eq_getElem_cons h1, firstM]
theorem twice_rev (l : List Bytes) : twice l.reverse = twice l := by
  have h1 := @twice_nodup l
  have h2 := @twice_nodup l.reverse
  rw [(List.reverse_perm l).nodup_iff] at h2
  have h3 : twice l.reverse = false ↔ twice l = false := h2.trans h1.symm
  revert h3
  cases twice l <;> cases twice l.reverse <;> simp
set_option maxHeartbeats 4000000 in
theorem check_c (l : List Me) (s : Sc) (lv vd va vz vc : Value) (w : World) (hr : IsMeR w l lv) (hs : IsSc w s vd va vz vc) (hm : MsLen l) (hl : ScLen s) (hA : s.auths.length ≤ 1000000) (hZ : s.zones.length ≤ 1000000) (hC : s.cases.length ≤ 1000000) :
    Calls Tryz.prog 28 #[lv, sval s vd va vz vc] w fun e w' => e = .returned (.int .i64 (checkV l s : Nat)) ∧ Below w.heap.size w w' := by
  have HR := Lib.hid hr
  have HS := Lib.hid hs
  have HM := Lib.hid hm
  have HL := Lib.hid hl
  have HP := Lib.hid fun (W : World) (hb : Below w.heap.size w W) => proper_c s vd va vz vc W (hs.later hb) hl hA hZ hC
  obtain ⟨y, c, rfl⟩ := hr.form
  obtain ⟨N, hN⟩ : ∃ N, N = l.length := ⟨_, rfl⟩
  have HN := Lib.hid hN
  rw [← hN] at HR ⊢
  have hNl : N ≤ 1000000 := by rw [hN]; exact hm.len
  clear hr hs hm hl hA hZ hC hN
  obtain ⟨bx, hbx⟩ : ∃ bx, bx = w.heap.size := ⟨_, rfl⟩
  obtain ⟨W1, hW1⟩ : ∃ W1, W1 = w.alloc (sobj s vd va vz vc) := ⟨_, rfl⟩
  have HO : Hid (Owns w W1 [blk bx (sobj s vd va vz vc)]) := by
    rw [hW1, hbx]
    exact Lib.hid ((Owns.start w).box _)
  obtain ⟨yd, md, rfl⟩ := HS.out.dom.form
  obtain ⟨ya, ma, rfl⟩ := HS.out.auths.form
  obtain ⟨yz, mz, rfl⟩ := HS.out.zones.form
  obtain ⟨yc, mc, rfl⟩ := HS.out.cases.form
  obtain ⟨ND, hND⟩ : ∃ n, n = s.dom.length := ⟨_, rfl⟩
  obtain ⟨NA, hNA⟩ : ∃ n, n = s.auths.length := ⟨_, rfl⟩
  obtain ⟨NZ, hNZ⟩ : ∃ n, n = s.zones.length := ⟨_, rfl⟩
  obtain ⟨NC, hNC⟩ : ∃ n, n = s.cases.length := ⟨_, rfl⟩
  rw [← hND, ← hNA, ← hNZ, ← hNC] at HS HP HO hW1 ⊢
  clear hND hNA hNZ hNC
  go_enter Tryz.func28, Tryz.ntmps28
  go_wp2_with fail
  rw [← hW1, ← hbx]
  clear hW1 hbx
  go_at_call 15
  refine (HP.out W1 HO.out.base).mono ?_
  rintro e W2 ⟨rfl, hb⟩
  replace HO := Lib.hid (HO.out.below hb)
  clear hb HP
  obtain ⟨q, hq⟩ : ∃ q, q = properB s := ⟨_, rfl⟩
  rw [← hq]
  have HQ := Lib.hid hq
  clear hq
  cases q
  · have HE : Hid (checkV l s = 1) := by
      show _ = _
      unfold checkV
      rw [← HQ.out]; rfl
    go_wp2_with fail
    go_ret
    exact ⟨by rw [HE.out]; rfl, HO.out.base⟩
  by_cases n2 : 200 < N
  · have n2' : (200 : Int) < N := by omega
    have HE : Hid (checkV l s = 2) := by
      show _ = _
      unfold checkV
      rw [← HQ.out, if_neg (by simp), if_pos (by rw [← HN.out]; exact n2)]
    go_wp2_with fail
    go_ret
    exact ⟨by rw [HE.out]; rfl, HO.out.base⟩
  have n2' : ¬ (200 : Int) < N := by omega
  have HP : Hid (checkV l s = if firstM s.dom l ≠ 0 then firstM s.dom l else if twice (l.map Me.id) = true then 9 else 0) := by
    show _ = _
    unfold checkV
    rw [← HQ.out, if_neg (by simp), if_neg (by rw [← HN.out]; exact n2)]
  have hmm := @run_makeMap Tryz.prog
  clear HQ n2
  obtain ⟨o, ho⟩ : ∃ o, o = sobj s (.slice yd ND md) (.slice ya NA ma) (.slice yz NZ mz) (.slice yc NC mc) := ⟨_, rfl⟩
  obtain ⟨bm, hbm⟩ : ∃ bm, bm = W2.heap.size := ⟨_, rfl⟩
  obtain ⟨W5, hW5⟩ : ∃ W5, W5 = W2.alloc (.map #[] 0) := ⟨_, rfl⟩
  have HV : Hid (VI w W5 bx bm o 0 (idsTo l 0)) := by
    rw [hW5, hbm, ho]
    obtain ⟨bk, -⟩ := HO.out.blk
    refine ⟨HO.out.base.alloc HO.out.base.size _, ?_, World.ownsMap_made W2 Tryz.prog 9 (plainElem (H := Unit) Tryz.prog 4), Nat.ne_of_lt (lt_of_block bk), HO.out.base.size⟩
    rw [((Below.refl _ _).alloc (Nat.le_refl _) (.map #[] 0)).block _ (lt_of_block bk)]
    exact bk
  go_wp2_with fail
  rw [← hW5, ← hbm]
  clear hW5 hbm HO
  go_wp2_with fail
  have H0 : Hid (firstM s.dom l = firstM s.dom (l.drop 0)) := by show _ = _; simp
  clear hmm
  go_loopg [6, 19] N (fun gk tw i wr => ∃ k : Nat, gk = N - k ∧ k ≤ N ∧ tw = .bool (twice (idsTo l k)) ∧ i = .int .i64 (k : Int) ∧ Hid (firstM s.dom l = firstM s.dom (l.drop k)) ∧ Hid (VI w wr bx bm o k (idsTo l k)))
  case atStart => exact ⟨0, rfl, Nat.zero_le _, rfl, rfl, H0, HV⟩
  case round =>
    rename_i J1 K1 hJ1 hK1
    clear HV H0
    obtain ⟨k, rfl, hk, rfl, rfl, HI, HV⟩ := hrel
    by_cases hlt : k < N
    · obtain ⟨m, hx⟩ : ∃ x, l[k]? = some x := ⟨_, List.getElem?_eq_getElem (by rw [← HN.out]; exact hlt)⟩
      obtain ⟨hml, hmc⟩ := HM.out.each m (List.mem_of_getElem? hx)
      obtain ⟨g, off, kv, rfl, hg, hm, hf⟩ := HR.out.get HV.out.base hx
      have HX := Lib.hid hx
      have HML := Lib.hid hml
      have HMC := Lib.hid hmc
      obtain ⟨y2, m2, rfl⟩ := hf.form
      obtain ⟨n2, hn2⟩ : ∃ n, n = m.cond.kids.length := ⟨_, rfl⟩
      rw [← hn2] at hm hf
      have HF := Lib.hid hf
      clear hx hml hmc hf hn2
      obtain ⟨c0, c1, c2, c3, c4, c5, c6, c7, c8, c9, c10, c11⟩ := hm
      obtain ⟨tw, htw⟩ : ∃ q, q = twice (idsTo l k) := ⟨_, rfl⟩
      rw [← htw]
      have HTW := Lib.hid htw
      clear htw
      obtain ⟨b8, hb8⟩ : ∃ b, b = wr.heap.size := ⟨_, rfl⟩
      obtain ⟨W6, hW6⟩ : ∃ W, W = wr.alloc (mobj m (.slice y2 n2 m2)) := ⟨_, rfl⟩
      have hbox := HV.out.box
      rw [ho] at hbox
      have hx0 := lt_of_block hbox
      have cB : wr.cell? ⟨bx, 0, none⟩ = some (.slice yd ND md) := by rw [cell_of_heap hbox]; rfl
      have HB8 : Hid (W6.heap[b8]? = some (mobj m (.slice y2 n2 m2))) := by
        rw [hW6]
        exact Lib.hid (new_heap wr _ b8 hb8)
      go_wp2_with fail
      rw [← hW6, ← hb8]
      replace HV : Hid (VI w W6 bx bm o k (idsTo l k)) := by
        rw [hW6]
        exact Lib.hid (HV.out.below ((Below.refl _ _).alloc (Nat.le_refl _) _))
      have hfd : Below wr.heap.size wr W6 := by rw [hW6]; exact (Below.refl _ _).alloc (Nat.le_refl _) _
      have HF6 : Hid (IsFm (fun _ => True) W6 m.cond (.slice y2 n2 m2)) := Lib.hid (HF.out.later hfd)
      clear hW6 hb8 hbox hx0 cB hg c0 c1 c2 c3 c4 c5 c6 c7 c8 c9 c10 c11 HF hfd
      go_at_call 54
      refine (validM_c s.dom _ m _ W6 (HS.out.dom.later HV.out.base) HF6.out HL.out.dom HML.out HMC.out).mono ?_
      rintro e W7 ⟨rfl, hb⟩
      replace HV := Lib.hid (HV.out.below hb)
      replace HB8 : Hid (W7.heap[b8]? = some (mobj m (.slice y2 n2 m2))) := Lib.hid ((hb.block b8 (lt_of_block HB8.out)).trans HB8.out)
      clear hb HF6
      obtain ⟨q, hq⟩ : ∃ q, q = validM s.dom m := ⟨_, rfl⟩
      rw [← hq]
      have HQ := Lib.hid hq
      clear hq
      by_cases hq0 : q = 0
      rotate_left
      · have hq1 : ((q : Int) != 0) = true := by simp; omega
        have HE : Hid (checkV l s = q) := by
          show _ = _
          rw [HP.out, HI.out, first_next HX.out, ← HQ.out, if_pos hq0, if_pos hq0]
        clear hJ1 hK1 hq0
        go_wp2_with fail
        go_ret
        exact ⟨by rw [HE.out]; rfl, HV.out.base⟩
      have hq1 : ((q : Int) != 0) = false := by simp; omega
      have HI2 : Hid (firstM s.dom l = firstM s.dom (l.drop (k + 1))) := by
        show _ = _
        rw [HI.out, first_next HX.out, ← HQ.out, if_neg (by simpa using hq0)]
      clear hq0 HI HQ
      have HIN : Hid (idsTo l (k + 1) = m.id :: idsTo l k) := Lib.hid (idsTo_next HX.out)
      obtain ⟨p, hp⟩ : ∃ q, q = (idsTo l k).contains m.id := ⟨_, rfl⟩
      have hrun := HV.out.look m.id HML.out.id
      rw [← hp] at hrun
      have h8 := lt_of_block HB8.out
      have c80 : W7.cell? ⟨b8, 0, none⟩ = some (.string (bs m.id)) := by rw [cell_of_heap HB8.out]; rfl
      have HTW2 : Hid (twice (idsTo l (k + 1)) = (tw || p)) := by
        show _ = _
        rw [HIN.out, twice, hp, ← HTW.out, Bool.or_comm]
      clear HTW hp
      cases tw
      · go_wp2_with (first | (at_mapUpdate; refine wpList_mapUpdate_own _ rfl _ _ _ 73 rfl 9 4 key_str Tryz.underlying73 _ bm k (seenD (idsTo l k)) rfl HV.out.map (by unfold maxLen; omega) _ _ _ rfl rfl (keyOf_string_mk Tryz.underlying9 (s := bs m.id) (by rw [bs_size]; have := HML.out.id; unfold maxLen; omega)) (.lit (.bool true)) [] (plainElem_bool Tryz.underlying4 true) ?_; intro w2 hown hgrow))
        have HV5 : Hid (VI w w2 bx bm o (k + 1) (idsTo l (k + 1))) := by
          have e : (bs m.id).data.toList = m.id := by simp [bs]
          rw [e] at hown
          rw [HIN.out]
          exact Lib.hid (HV.out.step hown hgrow)
        clear hown hgrow HV
        go_roundg (N - (k + 1))
        case measure => omega
        case rel => exact ⟨k + 1, rfl, by omega, by rw [HTW2.out]; rfl, by go_num, HI2, HV5⟩
      · go_wp2_with (first | (at_mapUpdate; refine wpList_mapUpdate_own _ rfl _ _ _ 73 rfl 9 4 key_str Tryz.underlying73 _ bm k (seenD (idsTo l k)) rfl HV.out.map (by unfold maxLen; omega) _ _ _ rfl rfl (keyOf_string_mk Tryz.underlying9 (s := bs m.id) (by rw [bs_size]; have := HML.out.id; unfold maxLen; omega)) (.lit (.bool true)) [] (plainElem_bool Tryz.underlying4 true) ?_; intro w2 hown hgrow))
        have HV5 : Hid (VI w w2 bx bm o (k + 1) (idsTo l (k + 1))) := by
          have e : (bs m.id).data.toList = m.id := by simp [bs]
          rw [e] at hown
          rw [HIN.out]
          exact Lib.hid (HV.out.step hown hgrow)
        clear hown hgrow HV
        go_roundg (N - (k + 1))
        case measure => omega
        case rel => exact ⟨k + 1, rfl, by omega, by rw [HTW2.out]; rfl, by go_num, HI2, HV5⟩
    · obtain rfl : k = N := by omega
      have HE : Hid (checkV l s = if twice (idsTo l k) = true then 9 else 0) := by
        show _ = _
        have e1 : firstM s.dom l = 0 := by rw [HI.out, HN.out, List.drop_length]; rfl
        rw [HP.out, e1, if_neg (by simp)]
        unfold idsTo
        rw [HN.out, List.take_length, twice_rev]
      clear hJ1 hK1 hlt
      obtain ⟨q, hq⟩ : ∃ q, q = twice (idsTo l k) := ⟨_, rfl⟩
      rw [← hq] at HE ⊢
      clear hq
      cases q
      · go_wp2_with fail
        go_ret
        exact ⟨by rw [HE.out]; rfl, HV.out.base⟩
      · go_wp2_with fail
        go_ret
        exact ⟨by rw [HE.out]; rfl, HV.out.base⟩
end Go.Proofs.YtakadfdnhlfijaaGreatDoor
