/-
  The law's own walk.
-/
import Derived.Test.YtckocgkndbdhcaaGreatDoorNwRest
namespace Go.Proofs.YtckocgkndbdhcaaGreatDoor
open Go.RowKit Go.Cz Go.Cz.Nw Go.Cz.Lx Go.ChangeMaps
set_option linter.unusedSimpArgs false
set_option linter.unusedVariables false
attribute [local go_sem] bs_size bs_extract bs_append bs_toList
attribute [local irreducible] cList cPlan
theorem mn_res {W : World} {tmps : Array Value} : (results Tryz.f3 tmps).run Tryz.prog W = .ok (tmps.getD 6 undef) W := by
  simp [results, Tryz.results3, go_sem]
theorem stand_len (t : Int) (l : List Lst) : (standL t l).length ≤ l.length := by
  unfold standL
  split
  · exact List.length_filter_le _ _
  · exact Nat.zero_le _
theorem all_ok {w : World} {cs : List Chg} (hok : ∀ c ∈ cs, ChgOk c ∧ IsNames w c.nv c.ns) (hl : cs.length ≤ 8) : ListOk w (runL [] cs) := (runL_ok (w := w) cs [] (listok_nil w) (by simp; omega) hok).1
theorem ent_at {w : World} {v : Value} {l : List Lst} (h : w.ownsRow 0 27 2 v l.length (ens l)) : ∃ y c, v = .slice y l.length c ∧ ∀ (i : Nat) (x : Lst), l[i]? = some x → ∃ g, y = some ⟨g, 0, none⟩ ∧ g < w.heap.size ∧ w.cell? ⟨g, i * 2, none⟩ = some (.string (bs x.id)) ∧ w.cell? ⟨g, i * 2 + 1, none⟩ = some x.nv := by
  obtain ⟨y, c, rfl⟩ := row_form h
  refine ⟨y, c, rfl, fun i x hx => ?_⟩
  have hi : i < l.length := (List.getElem?_eq_some_iff.1 hx).1
  obtain ⟨g, cr, e0, -, -, hg, -, hcl⟩ := row_at h (by omega)
  cases e0
  obtain ⟨q0, q1⟩ := ens_at l i x hx
  exact ⟨g, rfl, hg, hcl _ _ q0, hcl _ _ q1⟩
theorem smc_ok {c : Chg} (h : SmC c) : ChgOk c := ChgOk.mk1 h.1 h.2.1 h.2.2.2
set_option maxRecDepth 100000 in
set_option maxHeartbeats 8000000 in
theorem TopNeverWere_walk (w : World) (cs : List Chg) (v : Value) (r : Nat) (t : Int) (hs : Std w) (htz : Tz w) (hv : IsChgs w v cs) (hnm : NmsIn w cs) (hn4 : cs.length ≤ 1048576) (hr : r < 256) :
    Calls Tryz.prog 3 #[v, .int .u8 (r : Int), .int .i64 t] w fun e w' => e = .returned (.bool true) ∧ Below w.heap.size w w' := by
  have HV := Lib.hid hv
  have HS := Lib.hid hs
  have HT := Lib.hid htz
  have HNm := Lib.hid hnm
  have HN4 := Lib.hid hn4
  obtain ⟨y, cc, rfl, -⟩ := hv
  obtain ⟨n, hn⟩ : ∃ n, n = cs.length := ⟨_, rfl⟩
  have HN := Lib.hid hn
  have HR := Lib.hid hr
  rw [← hn] at HV hn4 ⊢
  clear hs htz hnm hn hr
  go_enter Tryz.func3, Tryz.ntmps3
  go_wp2_with fail
  go_at_call 4
  refine (head_c w HS.out HT.out).mono ?_
  rintro e W1 ⟨rfl, hb1⟩
  have HB1 := Lib.hid hb1
  clear hb1
  go_wp2_with fail
  go_at_call 5
  refine (short_c cs _ W1 (chgs_below HV.out HB1.out) (fun c hc => ⟨names_below (HNm.out c hc).1 HB1.out, (HNm.out c hc).2⟩) HN4.out).mono ?_
  rintro e W2 ⟨b, rfl, hb, hb2⟩
  have HB2 := Lib.hid (HB1.out.trans (hb2.mono HB1.out.size))
  clear hb2 HB1
  rcases b with _ | _
  · clear hb
    go_wp2_with fail
    refine bodyPost_ret mn_res (by rfl) ⟨rfl, HB2.out⟩
  obtain ⟨h8, hsm⟩ := hb rfl
  have HSm := Lib.hid hsm
  have H8 := Lib.hid h8
  clear hb hsm
  by_cases h0 : n = 0
  · have h0' : ((n : Nat) : Int) = 0 := by omega
    subst h0
    go_wp2_with fail
    refine bodyPost_ret mn_res (by rfl) ⟨rfl, HB2.out⟩
  have h0' : ((n : Int) == 0) = false := by simp; omega
  have hqn : r % n < n := Nat.mod_lt _ (by omega)
  have hqi : ((r % n : Nat) : Int) < (n : Int) := by omega
  obtain ⟨x0, hx0⟩ : ∃ x, cs[r % n]? = some x := ⟨_, List.getElem?_eq_getElem (by rw [← HN.out]; exact hqn)⟩
  obtain ⟨y', cc', e0, hcell⟩ := HV.out
  simp only [Value.slice.injEq] at e0
  obtain ⟨rfl, -, rfl⟩ := e0
  obtain ⟨g, o, rfl, hg, -, d1, -, -, -, -⟩ := hcell _ x0 hx0
  have HC : Hid (∀ (j : Nat) (c : Chg), cs[j]? = some c → w.cell? ⟨g, o + j * 5, none⟩ = some (.int .i64 c.k) ∧ w.cell? ⟨g, o + j * 5 + 1, none⟩ = some (.string (bs c.id)) ∧ w.cell? ⟨g, o + j * 5 + 2, none⟩ = some (.string (bs c.eid)) ∧ w.cell? ⟨g, o + j * 5 + 3, none⟩ = some c.nv ∧ w.cell? ⟨g, o + j * 5 + 4, none⟩ = some (.int .i64 c.at_) ∧ IsNames w c.nv c.ns) := Lib.hid fun j c hc => by
    obtain ⟨g', o', e1, -, h1, h2, h3, h4, h5, h6⟩ := hcell j c hc
    cases e1
    exact ⟨h1, h2, h3, h4, h5, h6⟩
  have HG := Lib.hid hg
  replace d1 := old_cell HB2.out d1
  have hg1 : g < W2.heap.size := Nat.lt_of_lt_of_le hg HB2.out.size
  obtain ⟨id, hid⟩ : ∃ id, id = x0.id := ⟨_, rfl⟩
  rw [← hid] at d1
  have hr1 : ((r : Nat) : Int) < 256 := by have := HR.out; omega
  clear hcell hx0 hg hid
  go_upto_region 4 with fail
  clear h0'
  go_wp2_with fail
  refine (Run_c cs (.slice (some ⟨g, o, none⟩) n cc) W2 (HS.out.below HB2.out) (chgs_below HV.out HB2.out) (fun c hc => smc_ok (HSm.out c hc)) (by have := H8.out; omega)).mono ?_
  rintro e W3 ⟨v1, v2, rfl, ho3⟩
  have hr2 := ho3.pop.row
  rw [runE_len, ← HN.out] at hr2
  obtain ⟨ge, ce, hv2, -, -, hge, -, hec⟩ := row_at hr2 (by omega)
  subst hv2
  have HEc := Lib.hid hec
  have HGe := Lib.hid hge
  have HO3 : Hid (Owns W2 W3 [lrow v1 (runL [] cs), erow (.slice (some ⟨ge, 0, none⟩) n ce) (runE [] cs)]) := Lib.hid ho3
  have HB3 := Lib.hid (HB2.out.trans (ho3.base.mono HB2.out.size))
  have H0 : Hid (Owns W3 W3 [crow (.slice none 0 0) []]) := Lib.hid ((Owns.start W3).rowNil 29 5)
  clear d1 hg1 hr1 hr2 ho3 hec hge hqn hqi
  go_wp2_with fail
  go_loopw [11, 12, 13, 14] (fun s11 s12 s13 i wr => ∃ j : Nat, j ≤ n ∧ i = .int .i64 (j : Int) ∧ s11 = .bool (track id [] sub0 (cs.take j)).void ∧ s13 = (track id [] sub0 (cs.take j)).nv ∧ Hid (IsNames W3 (track id [] sub0 (cs.take j)).nv (track id [] sub0 (cs.take j)).ns) ∧ Hid (Owns W3 wr [crow s12 ((cs.take j).filter (neC id))])) (fun _ _ _ i _ => n - (intOf i).toNat)
  case atStart => exact ⟨0, Nat.zero_le _, rfl, rfl, rfl, Lib.hid (no_names W3), H0⟩
  clear H0
  obtain ⟨j, hj, rfl, rfl, rfl, HN0, HO⟩ := hrel
  obtain ⟨S, hS⟩ : ∃ S, S = track id [] sub0 (cs.take j) := ⟨_, rfl⟩
  rw [← hS] at HN0 ⊢
  have HSt := Lib.hid hS
  clear hS
  obtain ⟨snv, sns, sv⟩ := S
  dsimp only at HN0 ⊢
  by_cases hjn : j < n
  · have hlt : (j : Int) < (n : Int) := by omega
    obtain ⟨x, hxx⟩ : ∃ x, cs[j]? = some x := ⟨_, List.getElem?_eq_getElem (by rw [← HN.out]; exact hjn)⟩
    obtain ⟨d0, d1, d2, d3, d4, hnx⟩ := HC.out j x hxx
    have hbr := HB3.out.trans (HO.out.base.mono HB3.out.size)
    replace d0 := old_cell hbr d0
    replace d1 := old_cell hbr d1
    replace d2 := old_cell hbr d2
    replace d3 := old_cell hbr d3
    replace d4 := old_cell hbr d4
    have HNx := Lib.hid (names_below hnx HB3.out)
    have hg1 : g < wr.heap.size := Nat.lt_of_lt_of_le HG.out hbr.size
    obtain ⟨er, her⟩ : ∃ z, z = applyE (runL [] (cs.take j)) x := ⟨_, rfl⟩
    have d5 : wr.cell? ⟨ge, j, none⟩ = some (.int .i64 er) := old_cell HO.out.base (HEc.out j _ (by rw [ecs, List.getElem?_map, runE_at _ _ _ _ hxx, her]; rfl))
    have hg2 : ge < wr.heap.size := Nat.lt_of_lt_of_le HGe.out HO.out.base.size
    have HT : Hid (track id [] sub0 (cs.take (j + 1)) = stepS id ⟨snv, sns, sv⟩ x er) := by
      show _ = _
      rw [take_snocC hxx, track_snoc, ← HSt.out, her]
    have HTk := Lib.hid (take_snocC hxx)
    by_cases hx : x.id = id
    · obtain ⟨k, xid, eid, nv, ns, tt⟩ := x
      dsimp only at hx d0 d1 d2 d3 d4
      subst hx
      have HF : Hid ((cs.take (j + 1)).filter (neC xid) = (cs.take j).filter (neC xid)) := by
        show _ = _
        rw [HTk.out, List.filter_append, List.filter_cons_of_neg (by simp [neC]), List.filter_nil, List.append_nil]
      clear hnx hbr her hxx
      dsimp only at HNx
      obtain ⟨yn, cn, hnv, -⟩ := HNx.out
      subst hnv
      by_cases h0 : er = 0
      · subst h0
        by_cases h1 : k = 1
        · subst h1
          rcases sv with _ | _
          · -- .slice yn ns.length cn the names' value, ns the names, false void, HNx that the names lie there,  facts
            have HT2 : Hid (track xid [] sub0 (cs.take (j + 1)) = ⟨.slice yn ns.length cn, ns, false⟩) := by show _ = _; rw [HT.out]; simp [stepS]
            go_wp2_with fail
            go_roundw
            case rel => exact ⟨j + 1, by omega, by go_num, by rw [HT2.out], by rw [HT2.out], by rw [HT2.out]; exact HNx, by rw [HF.out]; exact HO⟩
            case measure => simp [intOf]; omega
          · -- .slice yn ns.length cn the names' value, ns the names, true void, HNx that the names lie there,  facts
            have HT2 : Hid (track xid [] sub0 (cs.take (j + 1)) = ⟨.slice yn ns.length cn, ns, true⟩) := by show _ = _; rw [HT.out]; simp [stepS]
            go_wp2_with fail
            go_roundw
            case rel => exact ⟨j + 1, by omega, by go_num, by rw [HT2.out], by rw [HT2.out], by rw [HT2.out]; exact HNx, by rw [HF.out]; exact HO⟩
            case measure => simp [intOf]; omega
        by_cases h3 : k = 3
        · subst h3
          rcases sv with _ | _
          · -- .slice yn ns.length cn the names' value, ns the names, false void, HNx that the names lie there,  facts
            have HT2 : Hid (track xid [] sub0 (cs.take (j + 1)) = ⟨.slice yn ns.length cn, ns, false⟩) := by show _ = _; rw [HT.out]; simp [stepS]
            go_wp2_with fail
            go_roundw
            case rel => exact ⟨j + 1, by omega, by go_num, by rw [HT2.out], by rw [HT2.out], by rw [HT2.out]; exact HNx, by rw [HF.out]; exact HO⟩
            case measure => simp [intOf]; omega
          · -- .slice yn ns.length cn the names' value, ns the names, true void, HNx that the names lie there,  facts
            have HT2 : Hid (track xid [] sub0 (cs.take (j + 1)) = ⟨.slice yn ns.length cn, ns, true⟩) := by show _ = _; rw [HT.out]; simp [stepS]
            go_wp2_with fail
            go_roundw
            case rel => exact ⟨j + 1, by omega, by go_num, by rw [HT2.out], by rw [HT2.out], by rw [HT2.out]; exact HNx, by rw [HF.out]; exact HO⟩
            case measure => simp [intOf]; omega
        have h1' : (k == 1) = false := by simpa using h1
        have h3' : (k == 3) = false := by simpa using h3
        rcases sv with _ | _
        · by_cases h4 : k = 4
          · subst h4
            clear h1' h3'
            -- snv the names' value, sns the names, true void, HN0 that the names lie there,  facts
            have HT2 : Hid (track xid [] sub0 (cs.take (j + 1)) = ⟨snv, sns, true⟩) := by show _ = _; rw [HT.out]; simp [stepS]
            go_wp2_with fail
            go_roundw
            case rel => exact ⟨j + 1, by omega, by go_num, by rw [HT2.out], by rw [HT2.out], by rw [HT2.out]; exact HN0, by rw [HF.out]; exact HO⟩
            case measure => simp [intOf]; omega
          · have h4' : (k == 4) = false := by simpa using h4
            -- snv the names' value, sns the names, false void, HN0 that the names lie there, , h1, h3, h4 facts
            have HT2 : Hid (track xid [] sub0 (cs.take (j + 1)) = ⟨snv, sns, false⟩) := by show _ = _; rw [HT.out]; simp [stepS, h1, h3, h4]
            go_wp2_with fail
            go_roundw
            case rel => exact ⟨j + 1, by omega, by go_num, by rw [HT2.out], by rw [HT2.out], by rw [HT2.out]; exact HN0, by rw [HF.out]; exact HO⟩
            case measure => simp [intOf]; omega
        · -- snv the names' value, sns the names, true void, HN0 that the names lie there, , h1, h3 facts
          have HT2 : Hid (track xid [] sub0 (cs.take (j + 1)) = ⟨snv, sns, true⟩) := by show _ = _; rw [HT.out]; simp [stepS, h1, h3]
          go_wp2_with fail
          go_roundw
          case rel => exact ⟨j + 1, by omega, by go_num, by rw [HT2.out], by rw [HT2.out], by rw [HT2.out]; exact HN0, by rw [HF.out]; exact HO⟩
          case measure => simp [intOf]; omega
      · have h0' : (er == 0) = false := by simpa using h0
        rcases sv with _ | _
        · by_cases h4 : k = 4
          · subst h4
            -- snv the names' value, sns the names, false void, HN0 that the names lie there, , h0 facts
            have HT2 : Hid (track xid [] sub0 (cs.take (j + 1)) = ⟨snv, sns, false⟩) := by show _ = _; rw [HT.out]; simp [stepS, h0]
            go_wp2_with fail
            go_roundw
            case rel => exact ⟨j + 1, by omega, by go_num, by rw [HT2.out], by rw [HT2.out], by rw [HT2.out]; exact HN0, by rw [HF.out]; exact HO⟩
            case measure => simp [intOf]; omega
          · -- snv the names' value, sns the names, false void, HN0 that the names lie there, , h0, h4 facts
            have HT2 : Hid (track xid [] sub0 (cs.take (j + 1)) = ⟨snv, sns, false⟩) := by show _ = _; rw [HT.out]; simp [stepS, h0, h4]
            go_wp2_with fail
            go_roundw
            case rel => exact ⟨j + 1, by omega, by go_num, by rw [HT2.out], by rw [HT2.out], by rw [HT2.out]; exact HN0, by rw [HF.out]; exact HO⟩
            case measure => simp [intOf]; omega
        · -- snv the names' value, sns the names, true void, HN0 that the names lie there, , h0 facts
          have HT2 : Hid (track xid [] sub0 (cs.take (j + 1)) = ⟨snv, sns, true⟩) := by show _ = _; rw [HT.out]; simp [stepS, h0]
          go_wp2_with fail
          go_roundw
          case rel => exact ⟨j + 1, by omega, by go_num, by rw [HT2.out], by rw [HT2.out], by rw [HT2.out]; exact HN0, by rw [HF.out]; exact HO⟩
          case measure => simp [intOf]; omega
    · obtain ⟨k, xid, eid, nv, ns, tt⟩ := x
      dsimp only at hx d0 d1 d2 d3 d4 HNx
      obtain ⟨yn, cn, hnv, -⟩ := HNx.out
      subst hnv
      have HT2 : Hid (track id [] sub0 (cs.take (j + 1)) = ⟨snv, sns, sv⟩) := by show _ = _; rw [HT.out]; simp [stepS, hx]
      have HF : Hid ((cs.take (j + 1)).filter (neC id) = (cs.take j).filter (neC id) ++ [⟨k, xid, eid, .slice yn ns.length cn, ns, tt⟩]) := by
        show _ = _
        rw [HTk.out, List.filter_append, List.filter_cons_of_pos (by simp [neC, hx]), List.filter_nil]
      have HFl : Hid (((cs.take j).filter (neC id)).length ≤ j) := by
        show _ ≤ _
        refine Nat.le_trans (List.length_filter_le _ _) ?_
        rw [List.length_take]
        omega
      have hx' : (xid == id) = false := by simpa using hx
      obtain ⟨m, hm⟩ : ∃ m, m = ns.length := ⟨_, rfl⟩
      have HM := Lib.hid hm
      rw [← hm] at d3
      clear hnx hbr her hxx hx HT HTk HNx hm
      have hoA := HO.out.box (.cells #[.int .i64 k, .string (bs xid), .string (bs eid), .slice yn m cn, .int .i64 tt] 29 (0, 0))
      go_wp2_with (refine wpList_plain rfl fun K hK => wp_append (.tmp 63) (.tmp 68) 22 (by rfl) 29 _ 5 72 Tryz.underlying22 info_ch (by rfl) (by omega) _ ((cs.take j).filter (neC id)).length _ (by rfl) hoA.pop.row wr.heap.size 1 1 [.int .i64 k, .string (bs xid), .string (bs eid), .slice yn m cn, .int .i64 tt] (by rfl) (by rfl) 29 (by exact hoA.blk.1) (by simp [Value.oneCell']) (by have := HFl.out; omega) (by have := HFl.out; omega) ?_; intro v2 w9 hrow hgrow hblk; refine hK _ _ ?_)
      have hO2 := Owns.rowGrew hoA.swap hrow hgrow hblk
      have HO2 := Lib.hid hO2.swap.pop
      clear hoA hrow hgrow hblk hO2 d0 d1 d2 d3 d4 d5 hg1 hg2
      go_wp2_with fail
      go_roundw
      case rel =>
        refine ⟨j + 1, by omega, by go_num, by rw [HT2.out], by rw [HT2.out], by rw [HT2.out]; exact HN0, ?_⟩
        rw [HF.out, crow_snoc]
        have h := HO2.out
        rw [HM.out] at h
        exact Lib.hid h
      case measure => simp [intOf]; omega
  · obtain rfl : j = n := by omega
    clear hjn hj
    have hS := HSt.out
    have HR1 := HO.out
    rw [HN.out, List.take_length] at hS HR1
    obtain ⟨R, hR⟩ : ∃ R, R = cs.filter (neC id) := ⟨_, rfl⟩
    rw [← hR] at HR1
    have hcsok : ∀ (u : World), Below w.heap.size w u → ∀ c ∈ cs, ChgOk c ∧ IsNames u c.nv c.ns := fun u hu c hc => by
      obtain ⟨i, hi⟩ := List.getElem?_of_mem hc
      exact ⟨smc_ok (HSm.out c hc), names_below (HC.out i c hi).2.2.2.2.2 hu⟩
    have hRm : ∀ c ∈ R, c ∈ cs := fun c hc => by rw [hR] at hc; exact (List.mem_filter.1 hc).1
    have hRl : R.length ≤ 8 := by rw [hR]; exact Nat.le_trans (List.length_filter_le _ _) H8.out
    obtain ⟨hlaw, hsub⟩ := law_all id (hcsok W3 HB3.out) H8.out
    rw [← hR] at hlaw
    rw [← hS] at hsub
    have HLaw := Lib.hid hlaw
    have HSub := Lib.hid hsub
    have HR2 := Lib.hid HR1
    have HRl := Lib.hid hRl
    have HRm := Lib.hid hRm
    have HOk := Lib.hid hcsok
    have HBr := Lib.hid (HB3.out.trans (HO.out.base.mono HB3.out.size))
    clear hS HR1 hR hcsok hRm hRl hlaw hsub
    go_wp2_with fail
    go_at_call 6
    refine (Run_c R _ wr (HS.out.below HBr.out) (chs_is HR2.out (fun c hc => (HOk.out wr HBr.out c (HRm.out c hc)).2)) (fun c hc => (HOk.out wr HBr.out c (HRm.out c hc)).1) (by have := HRl.out; omega)).mono ?_
    rintro e W5 ⟨v3, v4, rfl, ho5⟩
    have HO5 := Lib.hid ho5
    have HB5 := Lib.hid (HBr.out.trans (ho5.base.mono HBr.out.size))
    have hb35 : Below W3.heap.size W3 W5 := HR2.out.base.trans (ho5.base.mono HR2.out.base.size)
    replace HO3 := Lib.hid (HO3.out.below hb35)
    have HN5 := Lib.hid (names_below HN0.out hb35)
    clear ho5 hb35 HO HR2 HBr HN0
    go_wp2_with fail
    go_at_call 7
    have HA := Lib.hid (At_c (runL [] cs) v1 t W5 (HS.out.below HB5.out) HO3.out.row (all_ok (HOk.out W5 HB5.out) H8.out))
    refine HA.out.mono ?_
    rintro e W6 ⟨v5, rfl, ho6⟩
    have HO6 := Lib.hid ho6
    have HB6 := Lib.hid (HB5.out.trans (ho6.base.mono HB5.out.size))
    replace HO5 := Lib.hid (HO5.out.below ho6.base)
    replace HN5 := Lib.hid (names_below HN5.out ho6.base)
    clear ho6 HA HO3
    go_wp2_with fail
    go_at_call 7
    have HA := Lib.hid (At_c (runL [] R) v3 t W6 (HS.out.below HB6.out) HO5.out.row (all_ok (fun c hc => HOk.out W6 HB6.out c (HRm.out c hc)) HRl.out))
    refine HA.out.mono ?_
    rintro e W7 ⟨v6, rfl, ho7⟩
    have HB7 := Lib.hid (HB6.out.trans (ho7.base.mono HB6.out.size))
    have HN7 := Lib.hid (names_below HN5.out ho7.base)
    obtain ⟨X, hX⟩ : ∃ X, X = standL t (runL [] cs) := ⟨_, rfl⟩
    obtain ⟨Y, hY⟩ : ∃ Y, Y = standL t (runL [] R) := ⟨_, rfl⟩
    have hx6 := (HO6.out.below ho7.base).row
    have hy7 := ho7.row
    rw [← hX] at hx6
    rw [← hY] at hy7
    have HXY : Hid (Y = X.filter (neL id)) := by
      show _ = _
      rw [hY, HLaw.out, stand_filter, ← hX]
    have hall := all_ok (HOk.out W7 HB7.out) H8.out
    have hX4 : X.length ≤ 400 := by rw [hX]; exact Nat.le_trans (stand_len _ _) hall.len
    have hY4 : Y.length ≤ 400 := by rw [HXY.out]; exact Nat.le_trans (List.length_filter_le _ _) hX4
    have HXo : Hid (∀ x ∈ X, IsNames W7 x.nv x.ns ∧ x.ns.length ≤ 8 ∧ (∀ n ∈ x.ns, NmOk n) ∧ (x.id = id → x.nv = snv ∧ x.ns = sns ∧ sv = false)) := Lib.hid fun x hx => by
      rw [hX] at hx
      obtain ⟨hm, hvd⟩ := stand_mem hx
      have ho := hall.each x hm
      refine ⟨ho.nv, prop_len ho.prop, ho.ns, fun hid => ?_⟩
      obtain ⟨h1, h2, h3⟩ := HSub.out.1 x hm hid
      refine ⟨h1, h2, ?_⟩
      rcases hq : sv with _ | _
      · rfl
      · rw [h3 hq] at hvd
        cases hvd
    obtain ⟨yx, cx, hv5, hxc⟩ := ent_at hx6
    subst hv5
    obtain ⟨yy, cy, hv6, hyc⟩ := ent_at hy7
    subst hv6
    have HXc := Lib.hid hxc
    have HYc := Lib.hid hyc
    obtain ⟨nx, hnx⟩ : ∃ n, n = X.length := ⟨_, rfl⟩
    obtain ⟨ny, hny⟩ : ∃ n, n = Y.length := ⟨_, rfl⟩
    have HNx := Lib.hid hnx
    have HNy := Lib.hid hny
    rw [← hnx] at hX4
    rw [← hny] at hY4
    rw [← hnx, ← hny]
    obtain ⟨ys, cS, hsnv, -⟩ := HN7.out
    subst hsnv
    obtain ⟨ms, hms⟩ : ∃ m, m = sns.length := ⟨_, rfl⟩
    have HMs := Lib.hid hms
    rw [← hms] at HN7 HXo ⊢
    clear ho7 HA HO5 HO6 HN5 hx6 hy7 hall hxc hyc hnx hny hX hY hms HLaw HSub HB5 HB6 HC HEc HG HGe
    go_wp2_with fail
    have H0 : Hid (Below w.heap.size w W7 ∧ Below W7.heap.size W7 W7) := Lib.hid ⟨HB7.out, Below.refl _ _⟩
    go_loopw [19, 20] (fun s19 i wr => ∃ (i0 k : Nat), i0 ≤ nx ∧ i = .int .i64 (i0 : Int) ∧ s19 = .int .i64 (k : Int) ∧ Hid (k = ((X.take i0).filter (neL id)).length) ∧ Hid (Below w.heap.size w wr ∧ Below W7.heap.size W7 wr)) (fun _ i _ => nx - (intOf i).toNat)
    case atStart => exact ⟨0, 0, Nat.zero_le _, rfl, rfl, Lib.hid (by simp), H0⟩
    clear H0
    obtain ⟨i0, k, hi, rfl, rfl, HK, HB⟩ := hrel
    by_cases hin : i0 < nx
    · have hlt : (i0 : Int) < (nx : Int) := by omega
      obtain ⟨x, hxx⟩ : ∃ x, X[i0]? = some x := ⟨_, List.getElem?_eq_getElem (by rw [← HNx.out]; exact hin)⟩
      obtain ⟨gx, rfl, hgx, d0, d1⟩ := HXc.out i0 x hxx
      have HGx := Lib.hid hgx
      have e0 := d0
      have e1 := d1
      replace d0 := old_cell HB.out.2 d0
      replace d1 := old_cell HB.out.2 d1
      have lx : gx < wr.heap.size := Nat.lt_of_lt_of_le hgx HB.out.2.size
      obtain ⟨hxn, hx8, hxo, hxs⟩ := HXo.out x (List.mem_of_getElem? hxx)
      have HTk : Hid (X.take (i0 + 1) = X.take i0 ++ [x]) := by
        show _ = _
        obtain ⟨hj, rfl⟩ := List.getElem?_eq_some_iff.1 hxx
        exact List.take_succ_eq_append_getElem hj
      by_cases hq : x.id = id
      · obtain ⟨h1, h2, rfl⟩ := hxs hq
        obtain ⟨xid, xnv, xns, fr, til, vd⟩ := x
        dsimp only at h1 h2 hq d0 d1 hx8 hxo
        subst h1 h2 hq
        have HF : Hid (((X.take (i0 + 1)).filter (neL xid)).length = k) := by
          show _ = _
          rw [HTk.out, List.filter_append, List.filter_cons_of_neg (by simp [neL]), List.filter_nil, List.append_nil]
          exact HK.out.symm
        have HSE := Lib.hid (SameEntry_c xid xns (.slice ys ms cS) (.slice ys ms cS) wr (names_below HN7.out HB.out.2) (names_below HN7.out HB.out.2) (by omega) hxo)
        clear hxn hx8 hxo hxs hxx hgx e0 e1
        go_wp2_with fail
        go_at_call 8
        refine HSE.out.mono ?_
        rintro e W8 ⟨rfl, hb8⟩
        have HB8 := Lib.hid (And.intro (HB.out.1.trans (hb8.mono HB.out.1.size)) (HB.out.2.trans (hb8.mono HB.out.2.size)))
        clear hb8 HSE HB d0 d1 lx
        go_wp2_with fail
        go_roundw
        case rel => exact ⟨i0 + 1, k, by omega, by go_num, rfl, Lib.hid HF.out.symm, HB8⟩
        case measure => simp [intOf]; omega
      · have hyk : Y[k]? = some x := by
          have h := filter_at (neL id) X i0 x hxx (by simp [neL, hq])
          rw [← HK.out, ← HXY.out] at h
          exact h
        have hkn : k < ny := by rw [HNy.out]; exact (List.getElem?_eq_some_iff.1 hyk).1
        obtain ⟨gy, rfl, hgy, f0, f1⟩ := HYc.out k x hyk
        have hkn1 : ((k : Nat) : Int) < (ny : Int) := by omega
        have hkn2 : decide (ny ≤ k) = false := by simp; omega
        have hkn' : ¬ ((k : Nat) : Int) ≥ (ny : Int) := by omega
        have HF : Hid (((X.take (i0 + 1)).filter (neL id)).length = k + 1) := by
          show _ = _
          rw [HTk.out, List.filter_append, List.filter_cons_of_pos (by simp [neL, hq]), List.filter_nil, List.length_append, ← HK.out]
          rfl
        obtain ⟨xid, xnv, xns, fr, til, vd⟩ := x
        dsimp only at hq d0 d1 f0 f1 e0 e1 hx8 hxo hxn
        have hq' : (xid == id) = false := by simpa using hq
        have HX3 := Lib.hid hxn
        obtain ⟨yn, cn, hnv, -⟩ := hxn
        subst hnv
        obtain ⟨m, hm⟩ : ∃ m, m = xns.length := ⟨_, rfl⟩
        have HM := Lib.hid hm
        rw [← hm] at d1 e1 f1 HX3
        have HXd0 := Lib.hid e0
        have HXd1 := Lib.hid e1
        have HX8 := Lib.hid hx8
        have HXk := Lib.hid hxo
        have HF0 := Lib.hid f0
        have HF1 := Lib.hid f1
        have HGy := Lib.hid hgy
        clear hx8 hxo hxs hxx hgx hyk hgy f0 f1 e0 e1 hm hq
        go_upto_region 28 with fail
        refine wp_region_can [13] (List.range 16) (by decide +kernel) (by decide +kernel) ?_
        replace HB := Lib.hid (And.intro HB.out.1.drew HB.out.2.drew)
        generalize hWd : World.drew _ = W8 at HB ⊢
        clear hWd d0 d1 lx
        have d0 := old_cell HB.out.2 (HXd0.out)
        have d1 := old_cell HB.out.2 (HXd1.out)
        have f0 := old_cell HB.out.2 HF0.out
        have f1 := old_cell HB.out.2 HF1.out
        have lx : gx < W8.heap.size := Nat.lt_of_lt_of_le HGx.out HB.out.2.size
        have ly : gy < W8.heap.size := Nat.lt_of_lt_of_le HGy.out HB.out.2.size
        iterate 5 (refine cl_do rfl rfl rfl (by first | rfl | simp [okB, lenV, plainV, Act.eval]) (fun _ _ => ?_); go_wp2_with fail)
        iterate 8 (refine cl_yes rfl rfl rfl rfl (by first | rfl | simp [okB, lenV, plainV, Act.eval]) (fun _ _ => ?_); go_wp2_with fail)
        refine cl_ycall (i := 13) rfl rfl rfl rfl (fun K hK => ?_)
        go_wp2_with fail
        go_at_call 8
        refine (SameEntry_c xid xns (.slice yn m cn) (.slice yn m cn) W8 (names_below HX3.out HB.out.2) (names_below HX3.out HB.out.2) (by have := HX8.out; omega) HXk.out).mono ?_
        rintro e W9 ⟨rfl, hb9⟩
        have HBw := Lib.hid hb9
        have HB9 := Lib.hid (And.intro (HB.out.1.trans (hb9.mono HB.out.1.size)) (HB.out.2.trans (hb9.mono HB.out.2.size)))
        clear hb9 HB d0 d1 f0 f1 lx ly
        go_wp2_with (refine And.intro (show Below _ _ _ from ?_) ?_; exact HBw.out)
        clear HBw
        refine cl_yes rfl rfl rfl rfl (by first | rfl | simp [okB, lenV, plainV, Act.eval]) (fun _ _ => ?_); go_wp2_with fail
        iterate 1 (refine cl_do rfl rfl rfl (by first | rfl | simp [okB, lenV, plainV, Act.eval]) (fun _ _ => ?_); go_wp2_with fail)
        refine cl_nil ?_
        go_wp2_with fail
        go_roundw
        case rel => exact ⟨i0 + 1, k + 1, by omega, by go_num, by go_num, Lib.hid HF.out.symm, HB9⟩
        case measure => simp [intOf]; omega
    · obtain rfl : i0 = nx := by omega
      clear hin hi
      have hk : k = ny := by
        have h := HK.out
        rw [HNx.out, List.take_length, ← HXY.out, ← HNy.out] at h
        exact h
      subst hk
      go_wp2_with fail
      refine bodyPost_ret mn_res (by rfl) ⟨rfl, HB.out.1⟩
end Go.Proofs.YtckocgkndbdhcaaGreatDoor
