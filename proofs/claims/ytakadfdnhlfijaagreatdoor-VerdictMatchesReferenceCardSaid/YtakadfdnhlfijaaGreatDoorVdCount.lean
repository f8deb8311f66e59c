/-
  Which measures count: the closure of 'Licensed'.
-/
import Derived.Test.YtakadfdnhlfijaaGreatDoorVdCheck
import Derived.Test.YtakadfdnhlfijaaGreatDoorVdMaps
import Derived.Test.YtakadfdnhlfijaaGreatDoorFmHolds
import Derived.Test.YtakadfdnhlfijaaGreatDoorWnApplies
namespace Go.Proofs.YtakadfdnhlfijaaGreatDoor
open Go.RowKit Go.Cz Go.Cz.Lx Go.Cz.Fo Go.Cz.Vd
open Go.WideMaps (keyOf_string_mk)
open Go.Cz.Ck (Shift validB)
open Go.Cz.Wn (Ms datedB appliesF)
set_option linter.unusedSimpArgs false
set_option linter.unusedVariables false
attribute [local go_sem] bs_size bs_extract bs_append bs_toList
attribute [local irreducible] cList cPlan
/-- A measure's cells as a list. -/
def mcl (p : Me × Value) : List Value := [.string (bs p.1.id), .string (bs p.1.auth), .int .i64 p.1.kind, .string (bs p.1.target), .int .i64 p.1.cond.op, .string (bs p.1.cond.name), .int .i64 p.1.cond.cmp, .int .i64 p.1.cond.num, p.2, .int .i64 p.1.fr, .int .i64 p.1.un, .int .i64 p.1.wi]
theorem flat_mcl : ∀ (L : List (Me × Value)) (j i : Nat) (p : Me × Value), L[j]? = some p → i < 12 → (L.flatMap mcl)[j * 12 + i]? = (mcl p)[i]?
  | [], j, i, p, h, _ => by simp at h
  | a :: r, 0, i, p, h, hk => by
    simp at h; subst h
    rw [List.flatMap_cons, Nat.zero_mul, Nat.zero_add, List.getElem?_append_left (by simp [mcl]; exact hk)]
  | a :: r, j + 1, i, p, h, hk => by
    rw [List.flatMap_cons, List.getElem?_append_right (by simp [mcl]; omega)]
    have : (j + 1) * 12 + i - (mcl a).length = j * 12 + i := by simp [mcl]; omega
    rw [this]
    exact flat_mcl r j i p (by simpa using h) hk
theorem me_of_row {V W : World} {v : Value} {L : List (Me × Value)} (h : ORow 46 12 V W v L.length (L.flatMap mcl)) (hf : ∀ p ∈ L, IsFm (fun _ => True) W p.1.cond p.2) : IsMeR W (L.map Prod.fst) v := by
  rcases h.at with ⟨h1, h2⟩ | ⟨g, c, h1, h2, h3, h4, h5⟩
  · have : L = [] := List.length_eq_zero_iff.1 h2
    subst this
    exact ⟨none, 0, h1, .inl rfl⟩
  · refine ⟨some ⟨g, 0, none⟩, c, by rw [List.length_map]; exact h1, .inr ⟨g, 0, rfl, h4, by rw [List.length_map]; exact h2, fun j m hj => ?_⟩⟩
    obtain ⟨p, hp, rfl⟩ : ∃ p, L[j]? = some p ∧ p.1 = m := by
      rw [List.getElem?_map] at hj
      cases hq : L[j]? with
      | none => rw [hq] at hj; simp at hj
      | some q => rw [hq] at hj; exact ⟨q, rfl, by simpa using hj⟩
    have e : ∀ i, i < 12 → W.cell? ⟨g, 0 + j * 12 + i, none⟩ = W.cell? ⟨g, j * 12 + i, none⟩ := fun i _ => by rw [Nat.zero_add]
    have k : ∀ (i : Nat) (u : Value), i < 12 → (mcl p)[i]? = some u → W.cell? ⟨g, 0 + j * 12 + i, none⟩ = some u := fun i u hi hu => by
      rw [e i hi]
      exact h5 _ _ ((flat_mcl L j i p hp hi).trans hu)
    exact ⟨p.2, ⟨by have := k 0 _ (by omega) rfl; simpa using this, k 1 _ (by omega) rfl, k 2 _ (by omega) rfl, k 3 _ (by omega) rfl, k 4 _ (by omega) rfl, k 5 _ (by omega) rfl, k 6 _ (by omega) rfl, k 7 _ (by omega) rfl, k 8 _ (by omega) rfl, k 9 _ (by omega) rfl, k 10 _ (by omega) rfl, k 11 _ (by omega) rfl⟩, hf p (List.mem_of_getElem? hp)⟩
theorem info_me : (Tryz.prog.info? 46).map (fun i => (i.zero, i.size, i.bytes)) = some (some (.agg #[.string ⟨#[]⟩, .string ⟨#[]⟩, .int .i64 0, .string ⟨#[]⟩, .int .i64 0, .string ⟨#[]⟩, .int .i64 0, .int .i64 0, .slice none 0 0, .int .i64 0, .int .i64 0, .int .i64 0]), 12, 144) := by kernel_rfl
theorem zero_int (w : World) : (zeroValue 3).run Tryz.prog w = .ok (.int .i64 0) w := by kernel_rfl
theorem at_look {w : World} {bm n : Nat} {r : List Bytes} {a : Bytes} (h : w.ownsMap Tryz.prog 9 (plainElem Tryz.prog 3) bm n (atD r)) (ha : a.length ≤ 140737488355328) :
    (Instr.lookup 61 (.map (some bm)) (.string (bs a)) true).run Tryz.prog w = .ok (.tuple #[.int .i64 ((posA a r).getD 0 : Nat), .bool (posA a r).isSome]) w := by
  obtain ⟨v, ps, hrun, hv⟩ := h.look_ok key_str Tryz.underlying61 (zero_int w) (plainElem_int (H := Unit) Tryz.underlying3 (a := 0) (by decide)) (keyOf_string_mk Tryz.underlying9 (s := bs a) (by rw [bs_size]; unfold maxLen; omega))
  have e : (bs a).data.toList = a := by simp [bs]
  rw [e, (at_at a r).1] at hv
  rw [e, (at_at a r).2] at hrun
  obtain ⟨x, rfl, e2, -⟩ := plainElem_int_inv Tryz.underlying3 hv
  simp only [Prod.mk.injEq, DataW.lit.injEq, Lit.int.injEq] at e2
  rw [hrun, e2.1.2]
theorem auth_nodup {d : List Fact} : ∀ (l seen : List Bytes) (zs : List (List Shift)) (cs : List (List Int)), authL d seen l zs cs = true → (∀ a ∈ l, a ∉ seen) ∧ l.Nodup
  | [], _, _, _, _ => ⟨by simp, by simp⟩
  | a :: r, seen, z :: zs, c :: cs, h => by
    rw [authL] at h
    simp only [Bool.and_eq_true, Bool.not_eq_true', List.contains_eq_mem, decide_eq_false_iff_not] at h
    obtain ⟨h1, h2⟩ := auth_nodup r (a :: seen) zs cs h.2.2.2.2
    refine ⟨fun b hb => ?_, ?_⟩
    · rcases List.mem_cons.1 hb with rfl | hb
      · exact h.2.1
      · exact fun hs => h1 b hb (by simp [hs])
    · rw [List.nodup_cons]
      exact ⟨fun hx => h1 a hx (by simp), h2⟩
  | _ :: _, _, [], _, h => by simp [authL] at h
  | _ :: _, _, _ :: _, [], h => by simp [authL] at h
theorem proper_parts {s : Sc} (h : properB s = true) : s.zones.length = s.auths.length ∧ s.cases.length = s.auths.length ∧ s.auths.length ≤ 6 ∧ s.auths.Nodup := by
  unfold properB at h
  simp only [Bool.and_eq_true, decide_eq_true_eq] at h
  exact ⟨h.2.2.1, h.2.2.2.1, h.2.1, (auth_nodup _ _ _ _ h.2.2.2.2.2.1).2⟩
theorem count_next {s : Sc} {k : Int} {l : List Me} {j : Nat} {m : Me} (h : l[j]? = some m) : counting s k (l.take (j + 1)) = counting s k (l.take j) ++ if decide (m.kind = k) && countsB s m then [m] else [] := by
  unfold counting
  rw [List.take_add_one, h, List.filter_append]
  cases hb : (decide (m.kind = k) && countsB s m) <;> simp [hb]
/-- What the closure sees. -/
structure CE (w wr : World) (bl ba bx bm n : Nat) (lv : Value) (o : Obj) (r : List Bytes) : Prop where
  base : Below w.heap.size w wr
  l : wr.heap[bl]? = some (.cells #[lv] 22 (0, 0))
  a : wr.heap[ba]? = some (.cells #[.map (some bm)] 61 (0, 0))
  x : wr.heap[bx]? = some o
  map : wr.ownsMap Tryz.prog 9 (plainElem Tryz.prog 3) bm n (atD r)
theorem CE.below {w wr W : World} {bl ba bx bm n : Nat} {lv : Value} {o : Obj} {r : List Bytes} (h : CE w wr bl ba bx bm n lv o r) (hb : Below wr.heap.size wr W) : CE w W bl ba bx bm n lv o r :=
  ⟨h.base.trans (hb.mono h.base.size), (hb.block bl (lt_of_block h.l)).trans h.l, (hb.block ba (lt_of_block h.a)).trans h.a, (hb.block bx (lt_of_block h.x)).trans h.x, h.map.kept ⟨hb.os, hb.tape, hb.output, hb.size, fun k hk _ => hb.block k hk⟩ (row := none) (by simp)⟩
set_option maxRecDepth 100000 in
set_option maxHeartbeats 4000000 in
theorem counting_c (kd : Int) (l : List Me) (s : Sc) (y : Option Addr) (N c : Nat) (hN : N = l.length) (vd va vz vc : Value) (bl ba bx bm n : Nat) (w : World) (hr : IsMeR w l (.slice y N c)) (hs : IsSc w s vd va vz vc) (hm : MsLen l) (hl : ScLen s) (hp : properB s = true)
    (hce : CE w w bl ba bx bm n (.slice y N c) (sobj s vd va vz vc) s.auths.reverse) :
    Calls Tryz.prog 29 #[.int .i64 kd, .pointer (some ⟨bl, 0, none⟩), .pointer (some ⟨ba, 0, none⟩), .pointer (some ⟨bx, 0, none⟩)] w fun e w' => ∃ (v : Value) (L : List (Me × Value)), e = .returned v ∧ L.map Prod.fst = counting s kd l ∧ (∀ p ∈ L, ∃ y n c, p.2 = Value.slice y n c) ∧ ORow 46 12 w w' v L.length (L.flatMap mcl) := by
  have HRw := Lib.hid hr
  have HS := Lib.hid hs
  have HM := Lib.hid hm
  have HL := Lib.hid hl
  have HN := Lib.hid hN
  have HP := Lib.hid (proper_parts hp)
  obtain ⟨yd, md, rfl⟩ := hs.dom.form
  obtain ⟨ya, ma, rfl⟩ := hs.auths.form
  obtain ⟨yz, mz, rfl⟩ := hs.zones.form
  obtain ⟨yc, mc, rfl⟩ := hs.cases.form
  obtain ⟨ND, hND⟩ : ∃ n, n = s.dom.length := ⟨_, rfl⟩
  obtain ⟨NA, hNA⟩ : ∃ n, n = s.auths.length := ⟨_, rfl⟩
  obtain ⟨NZ, hNZ⟩ : ∃ n, n = s.zones.length := ⟨_, rfl⟩
  obtain ⟨NC, hNC⟩ : ∃ n, n = s.cases.length := ⟨_, rfl⟩
  rw [← hND, ← hNA, ← hNZ, ← hNC] at HS hce
  have HNA := Lib.hid hNA
  have HNZ := Lib.hid hNZ
  have HNC := Lib.hid hNC
  have hNl : N ≤ 1000000 := by rw [hN]; exact hm.len
  clear hr hs hm hl hp hND hNA hNZ hNC hN
  obtain ⟨o, ho⟩ : ∃ o, o = sobj s (.slice yd ND md) (.slice ya NA ma) (.slice yz NZ mz) (.slice yc NC mc) := ⟨_, rfl⟩
  rw [← ho] at hce
  have HV := Lib.hid hce
  have HV0 := Lib.hid hce
  have HOb := Lib.hid ho
  clear hce ho
  have hl0 := lt_of_block HV.out.l
  have cl : w.cell? ⟨bl, 0, none⟩ = some (.slice y N c) := by rw [cell_of_heap HV.out.l]; rfl
  go_enter Tryz.func29, Tryz.ntmps29
  go_wp2_with fail
  clear cl hl0
  have HA : Hid ((([] : List (Me × Value)).map Prod.fst) = counting s kd (l.take 0)) := by show _ = _; simp [counting]
  have HF : Hid (∀ p ∈ ([] : List (Me × Value)), IsFm (fun _ => True) w p.1.cond p.2) := Lib.hid (by simp)
  have HR : Hid (ORow 46 12 w w (.slice none 0 0) ([] : List (Me × Value)).length (([] : List (Me × Value)).flatMap mcl)) := Lib.hid (ORow.nil (Below.refl _ _))
  go_loopg [6, 13] N (fun gk v i wr => ∃ (k : Nat) (acc : List (Me × Value)), gk = N - k ∧ k ≤ N ∧ i = .int .i64 (k : Int) ∧ acc.length ≤ k ∧ Hid (acc.map Prod.fst = counting s kd (l.take k)) ∧ Hid (∀ p ∈ acc, IsFm (fun _ => True) w p.1.cond p.2) ∧ Hid (CE w wr bl ba bx bm n (.slice y N c) o s.auths.reverse) ∧ Hid (ORow 46 12 w wr v acc.length (acc.flatMap mcl)))
  case atStart => exact ⟨0, [], rfl, Nat.zero_le _, rfl, Nat.le_refl _, HA, HF, HV, HR⟩
  case round =>
    rename_i J1 K1 hJ1 hK1
    clear HA HF HV HR
    obtain ⟨k, acc, rfl, hk, rfl, hacc, HA, HF, HV, HR⟩ := hrel
    by_cases hlt : k < N
    · obtain ⟨m, hx⟩ : ∃ x, l[k]? = some x := ⟨_, List.getElem?_eq_getElem (by rw [← HN.out]; exact hlt)⟩
      obtain ⟨hml, hmc⟩ := HM.out.each m (List.mem_of_getElem? hx)
      have hgw := HRw.out.get (Below.refl _ _) hx
      obtain ⟨g, off, kv, rfl, hgw, hm, hf⟩ := hgw
      have HX := Lib.hid hx
      have HML := Lib.hid hml
      have HMC := Lib.hid hmc
      obtain ⟨y2, m2, rfl⟩ := hf.form
      obtain ⟨n2, hn2⟩ : ∃ n, n = m.cond.kids.length := ⟨_, rfl⟩
      rw [← hn2] at hm hf
      have HFm := Lib.hid hf
      have hmr := hm.later hgw HV.out.base
      have hg : g < wr.heap.size := Nat.lt_of_lt_of_le hgw HV.out.base.size
      clear hx hml hmc hf hn2 hm hgw
      obtain ⟨c0, c1, c2, c3, c4, c5, c6, c7, c8, c9, c10, c11⟩ := hmr
      obtain ⟨b8, hb8⟩ : ∃ b, b = wr.heap.size := ⟨_, rfl⟩
      obtain ⟨W6, hW6⟩ : ∃ W, W = wr.alloc (mobj m (.slice y2 n2 m2)) := ⟨_, rfl⟩
      have HB8 : Hid (W6.heap[b8]? = some (mobj m (.slice y2 n2 m2))) := by
        rw [hW6]
        exact Lib.hid (new_heap wr _ b8 hb8)
      have hfd : Below wr.heap.size wr W6 := by rw [hW6]; exact (Below.refl _ _).alloc (Nat.le_refl _) _
      have ha0 := lt_of_block HV.out.a
      have ca : wr.cell? ⟨ba, 0, none⟩ = some (.map (some bm)) := by rw [cell_of_heap HV.out.a]; rfl
      replace HV := Lib.hid (HV.out.below hfd)
      replace HR := Lib.hid (HR.out.keep hfd)
      have hrun := at_look HV.out.map HML.out.auth
      obtain ⟨i0, hi0⟩ : ∃ i, i = (posA m.auth s.auths.reverse).getD 0 := ⟨_, rfl⟩
      obtain ⟨q, hq⟩ : ∃ q, q = (posA m.auth s.auths.reverse).isSome := ⟨_, rfl⟩
      rw [← hi0, ← hq, hW6] at hrun
      dsimp only [mobj] at hrun
      have HI0 := Lib.hid hi0
      have HQ0 := Lib.hid hq
      have HPA : Hid (posA m.auth s.auths.reverse = idxA m.auth s.auths) := by
        show _ = _
        rw [posA_idx ((List.reverse_perm _).nodup_iff.2 HP.out.2.2.2), List.reverse_reverse]
      clear hi0 hq hfd
      go_wp2_with fail
      rw [← hW6, ← hb8]
      clear ha0 ca hrun hW6 hb8 hg c0 c1 c2 c3 c4 c5 c6 c7 c8 c9 c10 c11
      have h8 := lt_of_block HB8.out
      replace HV := Lib.hid (HV.out.below (Below.refl _ _).drew)
      replace HR := Lib.hid (HR.out.keep (Below.refl _ _).drew)
      refine wp_region_can [18, 30] (List.range 32) (by decide +kernel) (by decide +kernel) ?_
      obtain ⟨W7, hW7⟩ : ∃ W, W = W6.drew := ⟨_, rfl⟩
      replace HB8 : Hid (W7.heap[b8]? = some (mobj m (.slice y2 n2 m2))) := by rw [hW7]; exact HB8
      rw [← hW7] at HV HR ⊢
      rw [show W6.heap.size = W7.heap.size by rw [hW7]; rfl] at h8
      clear hW7
      cases q
      · have HS2 : Hid (counting s kd (l.take (k + 1)) = acc.map Prod.fst) := by
          show _ = _
          rw [count_next HX.out, ← HA.out, show countsB s m = false by unfold countsB; rw [← HPA.out]; have := HQ0.out; cases hp : posA m.auth s.auths.reverse with | none => rfl | some j => rw [hp] at this; cases this]; simp
        iterate 32 (first | (refine cl_do rfl rfl rfl rfl (fun _ _ => ?_); go_wp2_with fail) | (refine cl_yes rfl rfl rfl rfl (by first | rfl | simp [okB, lenV, plainV, Act.eval]) (fun _ _ => ?_); go_wp2_with fail) | (refine cl_no rfl rfl rfl ?_; go_simp))
        refine cl_nil ?_
        go_wp2_with fail
        go_roundg (N - (k + 1))
        case measure => omega
        case rel => exact ⟨k + 1, acc, rfl, by omega, by go_num, by omega, Lib.hid HS2.out.symm, HF, HV, HR⟩
      obtain ⟨i, hi⟩ : ∃ i, posA m.auth s.auths.reverse = some i := Option.isSome_iff_exists.1 HQ0.out.symm
      rw [HPA.out] at hi
      obtain rfl : i0 = i := by rw [HI0.out, HPA.out, hi]; rfl
      have HI := Lib.hid hi
      have hil : i0 < s.auths.length := (List.getElem?_eq_some_iff.1 (idxA_some hi)).1
      clear hi HI0 HQ0 HPA
      have c82 : W7.cell? ⟨b8, 2, none⟩ = some (.int .i64 m.kind) := by rw [cell_of_heap HB8.out]; rfl
      by_cases hkd : m.kind = kd
      rotate_left
      · have hk1 : (m.kind == kd) = false := by simpa using hkd
        have HK := Lib.hid hkd
        clear hkd
        have HS2 : Hid (counting s kd (l.take (k + 1)) = acc.map Prod.fst) := by
          show _ = _
          rw [count_next HX.out, ← HA.out, decide_eq_false HK.out]; simp
        iterate 32 (first | (refine cl_do rfl rfl rfl rfl (fun _ _ => ?_); go_wp2_with fail) | (refine cl_yes rfl rfl rfl rfl (by first | rfl | simp [okB, lenV, plainV, Act.eval]) (fun _ _ => ?_); go_wp2_with fail) | (refine cl_no rfl rfl rfl ?_; go_simp))
        refine cl_nil ?_
        go_wp2_with fail
        go_roundg (N - (k + 1))
        case measure => omega
        case rel => exact ⟨k + 1, acc, rfl, by omega, by go_num, by omega, Lib.hid HS2.out.symm, HF, HV, HR⟩
      have hk1 : (m.kind == kd) = true := by simpa using hkd
      have HK := Lib.hid hkd
      clear hkd
      iterate 8 (first | (refine cl_do rfl rfl rfl rfl (fun _ _ => ?_); go_wp2_with fail) | (refine cl_yes rfl rfl rfl rfl (by first | rfl | simp [okB, lenV, plainV, Act.eval]) (fun _ _ => ?_); go_wp2_with fail) | (refine cl_no rfl rfl rfl ?_; go_simp))
      clear hk1 c82
      obtain ⟨z, hz⟩ : ∃ x, s.zones[i0]? = some x := ⟨_, List.getElem?_eq_getElem (by rw [HP.out.1]; exact hil)⟩
      obtain ⟨cs, hc⟩ : ∃ x, s.cases[i0]? = some x := ⟨_, List.getElem?_eq_getElem (by rw [HP.out.2.1]; exact hil)⟩
      have hiz : i0 < NZ := by rw [HNZ.out, HP.out.1]; exact hil
      have hic : i0 < NC := by rw [HNC.out, HP.out.2.1]; exact hil
      have HZ := Lib.hid hz
      have HC := Lib.hid hc
      have HCn : Hid (cs.length ≤ 1000000) := Lib.hid (HL.out.cases cs (List.mem_of_getElem? hc))
      have HCB : Hid (countsB s m = (appliesF z m.kind m.fr m.un m.wi s.signed s.now && holdsF s.dom cs m.cond)) := by
        show _ = _
        unfold countsB
        rw [HI.out]
        simp [List.getD_eq_getElem?_getD, HZ.out, HC.out]
      clear hz hc hil
      obtain ⟨g2, off2, zx, zc, rfl, hg2, cz, hz⟩ := HS.out.zones.get HV.out.base HZ.out
      obtain ⟨g3, off3, cu, rfl, -, -, -⟩ := HS.out.cases.get HV.out.base HC.out
      have hbox := HV.out.x
      rw [HOb.out] at hbox
      have hx0 := lt_of_block hbox
      have c0 : W7.cell? ⟨bx, 0, none⟩ = some (.slice yd ND md) := by rw [cell_of_heap hbox]; rfl
      have c2 : W7.cell? ⟨bx, 2, none⟩ = some (.slice (some ⟨g2, off2, none⟩) NZ mz) := by rw [cell_of_heap hbox]; rfl
      have c3 : W7.cell? ⟨bx, 3, none⟩ = some (.slice (some ⟨g3, off3, none⟩) NC mc) := by rw [cell_of_heap hbox]; rfl
      have c4 : W7.cell? ⟨bx, 4, none⟩ = some (.int .i64 s.signed) := by rw [cell_of_heap hbox]; rfl
      have c5 : W7.cell? ⟨bx, 5, none⟩ = some (.int .i64 s.now) := by rw [cell_of_heap hbox]; rfl
      clear hbox
      have d0 : W7.cell? ⟨b8, 0, none⟩ = some (.string (bs m.id)) := by rw [cell_of_heap HB8.out]; rfl
      have d1 : W7.cell? ⟨b8, 1, none⟩ = some (.string (bs m.auth)) := by rw [cell_of_heap HB8.out]; rfl
      have d2 : W7.cell? ⟨b8, 2, none⟩ = some (.int .i64 m.kind) := by rw [cell_of_heap HB8.out]; rfl
      have d3 : W7.cell? ⟨b8, 3, none⟩ = some (.string (bs m.target)) := by rw [cell_of_heap HB8.out]; rfl
      have d4 : W7.cell? ⟨b8, 4, none⟩ = some (.int .i64 m.cond.op) := by rw [cell_of_heap HB8.out]; rfl
      have d5 : W7.cell? ⟨b8, 5, none⟩ = some (.string (bs m.cond.name)) := by rw [cell_of_heap HB8.out]; rfl
      have d6 : W7.cell? ⟨b8, 6, none⟩ = some (.int .i64 m.cond.cmp) := by rw [cell_of_heap HB8.out]; rfl
      have d7 : W7.cell? ⟨b8, 7, none⟩ = some (.int .i64 m.cond.num) := by rw [cell_of_heap HB8.out]; rfl
      have d8 : W7.cell? ⟨b8, 8, none⟩ = some (.slice y2 n2 m2) := by rw [cell_of_heap HB8.out]; rfl
      have d9 : W7.cell? ⟨b8, 9, none⟩ = some (.int .i64 m.fr) := by rw [cell_of_heap HB8.out]; rfl
      have d10 : W7.cell? ⟨b8, 10, none⟩ = some (.int .i64 m.un) := by rw [cell_of_heap HB8.out]; rfl
      have d11 : W7.cell? ⟨b8, 11, none⟩ = some (.int .i64 m.wi) := by rw [cell_of_heap HB8.out]; rfl
      iterate 10 (first | (refine cl_do rfl rfl rfl rfl (fun _ _ => ?_); go_wp2_with fail) | (refine cl_yes rfl rfl rfl rfl (by first | rfl | simp [okB, lenV, plainV, Act.eval]) (fun _ _ => ?_); go_wp2_with fail) | (refine cl_no rfl rfl rfl ?_; go_simp))
      clear hg2 cz hx0 c0 c2 c3 c4 c5 d0 d1 d2 d3 d4 d5 d6 d7 d8 d9 d10 d11
      refine cl_ycall (i := 18) rfl rfl rfl rfl (fun K hK => ?_)
      go_wp2_with fail
      go_at_call 30
      have HAp := Applies_c ⟨bs m.id, bs m.auth, m.kind, bs m.target, m.cond.op, bs m.cond.name, m.cond.cmp, m.cond.num, y2, n2, m2, m.fr, m.un, m.wi⟩ zx z.length zc z s.signed s.now W7 hz
      dsimp only [Ms.v] at HAp
      refine HAp.mono ?_
      clear HAp
      rintro e W8 ⟨rfl, hb⟩
      replace HV := Lib.hid (HV.out.below hb)
      replace HR := Lib.hid (HR.out.keep hb)
      replace HB8 : Hid (W8.heap[b8]? = some (mobj m (.slice y2 n2 m2))) := Lib.hid ((hb.block b8 (lt_of_block HB8.out)).trans HB8.out)
      replace h8 := lt_of_block HB8.out
      have Hb := Lib.hid hb
      clear hz hb
      dsimp only
      obtain ⟨q, hq⟩ : ∃ q, q = appliesF z m.kind m.fr m.un m.wi s.signed s.now := ⟨_, rfl⟩
      rw [← hq]
      have HQ := Lib.hid hq
      clear hq
      go_wp2_with fail
      refine And.intro Hb.out ?_
      clear Hb
      cases q
      · have HS2 : Hid (counting s kd (l.take (k + 1)) = acc.map Prod.fst) := by
          show _ = _
          rw [count_next HX.out, ← HA.out, HCB.out, ← HQ.out]; simp
        iterate 13 (first | (refine cl_do rfl rfl rfl rfl (fun _ _ => ?_); go_wp2_with fail) | (refine cl_yes rfl rfl rfl rfl (by first | rfl | simp [okB, lenV, plainV, Act.eval]) (fun _ _ => ?_); go_wp2_with fail) | (refine cl_no rfl rfl rfl ?_; go_simp))
        refine cl_nil ?_
        go_wp2_with fail
        go_roundg (N - (k + 1))
        case measure => omega
        case rel => exact ⟨k + 1, acc, rfl, by omega, by go_num, by omega, Lib.hid HS2.out.symm, HF, HV, HR⟩
      obtain ⟨g3', off3', cu', e3, hg3, cc, hcu⟩ := HS.out.cases.get HV.out.base HC.out
      cases e3
      have hbox := HV.out.x
      rw [HOb.out] at hbox
      have hx0 := lt_of_block hbox
      have c0 : W8.cell? ⟨bx, 0, none⟩ = some (.slice yd ND md) := by rw [cell_of_heap hbox]; rfl
      have c2 : W8.cell? ⟨bx, 2, none⟩ = some (.slice (some ⟨g2, off2, none⟩) NZ mz) := by rw [cell_of_heap hbox]; rfl
      have c3 : W8.cell? ⟨bx, 3, none⟩ = some (.slice (some ⟨g3, off3, none⟩) NC mc) := by rw [cell_of_heap hbox]; rfl
      have c4 : W8.cell? ⟨bx, 4, none⟩ = some (.int .i64 s.signed) := by rw [cell_of_heap hbox]; rfl
      have c5 : W8.cell? ⟨bx, 5, none⟩ = some (.int .i64 s.now) := by rw [cell_of_heap hbox]; rfl
      clear hbox
      have d4 : W8.cell? ⟨b8, 4, none⟩ = some (.int .i64 m.cond.op) := by rw [cell_of_heap HB8.out]; rfl
      have d5 : W8.cell? ⟨b8, 5, none⟩ = some (.string (bs m.cond.name)) := by rw [cell_of_heap HB8.out]; rfl
      have d6 : W8.cell? ⟨b8, 6, none⟩ = some (.int .i64 m.cond.cmp) := by rw [cell_of_heap HB8.out]; rfl
      have d7 : W8.cell? ⟨b8, 7, none⟩ = some (.int .i64 m.cond.num) := by rw [cell_of_heap HB8.out]; rfl
      have d8 : W8.cell? ⟨b8, 8, none⟩ = some (.slice y2 n2 m2) := by rw [cell_of_heap HB8.out]; rfl
      iterate 11 (first | (refine cl_do rfl rfl rfl rfl (fun _ _ => ?_); go_wp2_with fail) | (refine cl_yes rfl rfl rfl rfl (by first | rfl | simp [okB, lenV, plainV, Act.eval]) (fun _ _ => ?_); go_wp2_with fail) | (refine cl_no rfl rfl rfl ?_; go_simp))
      clear hg3 cc hx0 c0 c2 c3 c4 c5 d4 d5 d6 d7 d8
      refine cl_ycall (i := 30) rfl rfl rfl rfl (fun K hK => ?_)
      go_wp2_with fail
      go_at_call 31
      refine (Holds_c m.cond W8 _ s.dom _ cs _ (HFm.out.later HV.out.base) (HS.out.dom.later HV.out.base) hcu HL.out.dom.len HCn.out HL.out.dom.names (lim := 140737488355328) (by omega) HMC.out.names HMC.out.size).mono ?_
      rintro e W9 ⟨rfl, hb⟩
      replace HV := Lib.hid (HV.out.below hb)
      replace HR := Lib.hid (HR.out.keep hb)
      replace HB8 : Hid (W9.heap[b8]? = some (mobj m (.slice y2 n2 m2))) := Lib.hid ((hb.block b8 (lt_of_block HB8.out)).trans HB8.out)
      replace h8 := lt_of_block HB8.out
      have Hb := Lib.hid hb
      clear hcu hb
      obtain ⟨q, hq⟩ : ∃ q, q = holdsF s.dom cs m.cond := ⟨_, rfl⟩
      rw [← hq]
      have HQ2 := Lib.hid hq
      clear hq
      go_wp2_with fail
      refine And.intro Hb.out ?_
      clear Hb
      cases q
      · have HS2 : Hid (counting s kd (l.take (k + 1)) = acc.map Prod.fst) := by
          show _ = _
          rw [count_next HX.out, ← HA.out, HCB.out, ← HQ.out, ← HQ2.out]; simp
        iterate 1 (first | (refine cl_do rfl rfl rfl rfl (fun _ _ => ?_); go_wp2_with fail) | (refine cl_yes rfl rfl rfl rfl (by first | rfl | simp [okB, lenV, plainV, Act.eval]) (fun _ _ => ?_); go_wp2_with fail) | (refine cl_no rfl rfl rfl ?_; go_simp))
        refine cl_nil ?_
        go_wp2_with fail
        go_roundg (N - (k + 1))
        case measure => omega
        case rel => exact ⟨k + 1, acc, rfl, by omega, by go_num, by omega, Lib.hid HS2.out.symm, HF, HV, HR⟩
      have HS2 : Hid (counting s kd (l.take (k + 1)) = (acc ++ [(m, Value.slice y2 n2 m2)]).map Prod.fst) := by
        show _ = _
        rw [count_next HX.out, ← HA.out, HCB.out, ← HQ.out, ← HQ2.out, decide_eq_true HK.out]; simp
      have HF2 : Hid (∀ p ∈ acc ++ [(m, Value.slice y2 n2 m2)], IsFm (fun _ => True) w p.1.cond p.2) := Lib.hid fun p hp => by
        rcases List.mem_append.1 hp with hp | hp
        · exact HF.out p hp
        · obtain rfl : p = (m, Value.slice y2 n2 m2) := by simpa using hp
          exact HFm.out
      clear HCB HQ HQ2 HK HI HF HA HX HFm HCn HZ HC HML HMC
      iterate 1 (first | (refine cl_do rfl rfl rfl rfl (fun _ _ => ?_); go_wp2_with fail) | (refine cl_yes rfl rfl rfl rfl (by first | rfl | simp [okB, lenV, plainV, Act.eval]) (fun _ _ => ?_); go_wp2_with fail) | (refine cl_no rfl rfl rfl ?_; go_simp))
      refine cl_nil ?_
      have d0 : W9.cell? ⟨b8, 0, none⟩ = some (.string (bs m.id)) := by rw [cell_of_heap HB8.out]; rfl
      have d1 : W9.cell? ⟨b8, 1, none⟩ = some (.string (bs m.auth)) := by rw [cell_of_heap HB8.out]; rfl
      have d2 : W9.cell? ⟨b8, 2, none⟩ = some (.int .i64 m.kind) := by rw [cell_of_heap HB8.out]; rfl
      have d3 : W9.cell? ⟨b8, 3, none⟩ = some (.string (bs m.target)) := by rw [cell_of_heap HB8.out]; rfl
      have d4 : W9.cell? ⟨b8, 4, none⟩ = some (.int .i64 m.cond.op) := by rw [cell_of_heap HB8.out]; rfl
      have d5 : W9.cell? ⟨b8, 5, none⟩ = some (.string (bs m.cond.name)) := by rw [cell_of_heap HB8.out]; rfl
      have d6 : W9.cell? ⟨b8, 6, none⟩ = some (.int .i64 m.cond.cmp) := by rw [cell_of_heap HB8.out]; rfl
      have d7 : W9.cell? ⟨b8, 7, none⟩ = some (.int .i64 m.cond.num) := by rw [cell_of_heap HB8.out]; rfl
      have d8 : W9.cell? ⟨b8, 8, none⟩ = some (.slice y2 n2 m2) := by rw [cell_of_heap HB8.out]; rfl
      have d9 : W9.cell? ⟨b8, 9, none⟩ = some (.int .i64 m.fr) := by rw [cell_of_heap HB8.out]; rfl
      have d10 : W9.cell? ⟨b8, 10, none⟩ = some (.int .i64 m.un) := by rw [cell_of_heap HB8.out]; rfl
      have d11 : W9.cell? ⟨b8, 11, none⟩ = some (.int .i64 m.wi) := by rw [cell_of_heap HB8.out]; rfl
      obtain ⟨va, na, hva⟩ := HR.out.form
      go_wp2_with (refine wpList_plain rfl fun K hK => wp_append (.tmp 56) (.tmp 58) 22 (by rfl) 46 _ 12 144 Tryz.underlying22 info_me (by rfl) (by omega) _ acc.length _ (by rfl) (HR.out.row.alloc _) W9.heap.size 1 1 (mcl (m, .slice y2 n2 m2)) (by rfl) (by rfl) 46 (by exact new_heap W9 _ _ rfl) (by simp [mcl, Value.oneCell']) (by omega) (by omega) ?_; intro v' w2 hrow hgrow hblk)
      have hal : Below W9.heap.size W9 (W9.alloc (.cells (mcl (m, .slice y2 n2 m2)).toArray 46 (0, 0))) := (Below.refl _ _).alloc (Nat.le_refl _) _
      have HR2 : Hid (ORow 46 12 w w2 v' (acc ++ [(m, Value.slice y2 n2 m2)]).length ((acc ++ [(m, Value.slice y2 n2 m2)]).flatMap mcl)) := by
        have := (HR.out.keep hal).step hrow hgrow hblk
        simpa using Lib.hid this
      replace HV := Lib.hid (HV0.out.below HR2.out.below)
      clear hrow hgrow hblk HR hal d0 d1 d2 d3 d4 d5 d6 d7 d8 d9 d10 d11 h8
      go_roundg (N - (k + 1))
      case measure => omega
      case rel => exact ⟨k + 1, acc ++ [(m, Value.slice y2 n2 m2)], rfl, by omega, by go_num, by simp; omega, Lib.hid HS2.out.symm, HF2, HV, HR2⟩
    · obtain rfl : k = N := by omega
      have HE : Hid (acc.map Prod.fst = counting s kd l) := by
        show _ = _
        rw [HA.out, HN.out, List.take_length]
      clear hJ1 hK1 hlt
      go_wp2_with fail
      go_ret
      exact ⟨_, acc, rfl, HE.out, fun p hp => by obtain ⟨y, m, h⟩ := (HF.out p hp).form; exact ⟨y, _, m, h⟩, HR.out⟩
end Go.Proofs.YtakadfdnhlfijaaGreatDoor
