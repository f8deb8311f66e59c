/-
  What stands at an instant: list.At.
-/
import Derived.Test.YtckocgkndbdhcaaGreatDoorNwModel
namespace Go.Cz.Nw
def standB (t : Int) (x : Lst) : Bool := !x.vd && (decide (x.fr ≤ t) && (x.til == -1 || decide (t < x.til)))
def standL (t : Int) (l : List Lst) : List Lst := if instB t then l.filter (standB t) else []
def enl (x : Lst) : List Value := [.string (bs x.id), x.nv]
def ens (l : List Lst) : List Value := l.flatMap enl
theorem ens_len : ∀ l : List Lst, (ens l).length = l.length * 2
  | [] => rfl
  | a :: r => by
    have e : ens (a :: r) = enl a ++ ens r := rfl
    rw [e, List.length_append, ens_len r, List.length_cons]
    simp [enl]
    omega
theorem ens_at : ∀ (l : List Lst) (j : Nat) (x : Lst), l[j]? = some x → (ens l)[j * 2]? = some (.string (bs x.id)) ∧ (ens l)[j * 2 + 1]? = some x.nv
  | [], j, x, h => by simp at h
  | a :: r, 0, x, h => by
    simp at h
    subst h
    simp [ens, enl]
  | a :: r, j + 1, x, h => by
    have h1 := ens_at r j x (by simpa using h)
    have e : ens (a :: r) = enl a ++ ens r := rfl
    have e0 : ∀ i, (enl a ++ ens r)[(j + 1) * 2 + i]? = (ens r)[j * 2 + i]? := fun i => by
      rw [List.getElem?_append_right (by simp [enl]; omega)]
      congr 1
      simp [enl]
      omega
    have e1 := e0 0
    simp only [Nat.add_zero] at e1
    rw [e, e1, e0]
    exact h1
end Go.Cz.Nw
namespace Go.Proofs.YtckocgkndbdhcaaGreatDoor
open Go.RowKit Go.Cz Go.Cz.Nw Go.Cz.Lx Go.ChangeMaps
set_option linter.unusedSimpArgs false
set_option linter.unusedVariables false
attribute [local go_sem] bs_size bs_extract bs_append bs_toList
attribute [local irreducible] cList cPlan
abbrev nrow (v : Value) (l : List Lst) : Piece := rowP 27 2 v l.length (ens l)
theorem info_en : (Tryz.prog.info? 27).map (fun i => (i.zero, i.size, i.bytes)) = some (some (.agg #[.string ⟨#[]⟩, .slice none 0 0]), 2, 40) := by kernel_rfl
theorem nrow_snoc (v : Value) (l : List Lst) (x : Lst) : nrow v (l ++ [x]) = rowP 27 2 v (l.length + 1) (ens l ++ [.string (bs x.id), x.nv]) := by
  unfold nrow
  rw [List.length_append, show ens (l ++ [x]) = ens l ++ [.string (bs x.id), x.nv] by simp [ens, enl]]
  rfl
theorem at_res {W : World} {tmps : Array Value} : (results Tryz.f7 tmps).run Tryz.prog W = .ok (tmps.getD 4 undef) W := by
  simp [results, Tryz.results7, go_sem]
set_option maxRecDepth 100000 in
set_option maxHeartbeats 4000000 in
theorem At_c (l : List Lst) (v : Value) (t : Int) (w : World) (hstd : Std w) (hrow : w.ownsRow 0 57 5 v l.length (lss l)) (hl : ListOk w l) :
    Calls Tryz.prog 7 #[v, .int .i64 t] w fun e w' => ∃ v', e = .returned v' ∧ Owns w w' [nrow v' (standL t l)] := by
  have HP := Lib.hid (lproper_c l v w hstd hrow hl)
  obtain ⟨yr, cr, rfl⟩ := row_form hrow
  obtain ⟨n, hn⟩ : ∃ n, n = l.length := ⟨_, rfl⟩
  have HN := Lib.hid hn
  have HRow := Lib.hid hrow
  have HL := Lib.hid hl
  have HStd := Lib.hid hstd
  have hn4 : n ≤ 400 := by rw [hn]; exact hl.len
  rw [← hn] at HRow HP ⊢
  clear hrow hl hstd hn
  go_enter Tryz.func7, Tryz.ntmps7
  go_wp2_with fail
  go_at_call 17
  refine HP.out.mono ?_
  rintro e W1 ⟨g, rfl, -, -, hb⟩
  have HB := Lib.hid hb
  clear hb HP
  go_wp2_with fail
  go_at_call 18
  refine (inst_c t W1 (HStd.out.below HB.out)).mono ?_
  rintro e W2 ⟨rfl, hb⟩
  have hO : Owns w W2 [nrow (.slice none 0 0) []] := (((Owns.start w).below HB.out).below hb).rowNil 27 2
  have HO := Lib.hid hO
  clear hO hb HB
  rcases hi : instB t with _ | _
  · have HA : Hid (standL t l = []) := by show _ = _; unfold standL; rw [hi]; rfl
    clear hi
    go_wp2_with fail
    refine bodyPost_ret at_res (by rfl) ⟨_, rfl, ?_⟩
    rw [HA.out]
    exact HO.out
  have HA : Hid (standL t l = l.filter (standB t)) := by show _ = _; unfold standL; rw [hi]; rfl
  clear hi
  go_wp2_with fail
  go_loopw [7, 24] (fun r7 i wr => ∃ j : Nat, j ≤ n ∧ i = .int .i64 (j : Int) ∧ Hid (Owns w wr [nrow r7 ((l.take j).filter (standB t))])) (fun _ i _ => n - (intOf i).toNat)
  case atStart => exact ⟨0, Nat.zero_le _, rfl, HO⟩
  clear HO
  obtain ⟨j, hj, rfl, HO⟩ := hrel
  by_cases hjn : j < n
  · have hlt : (j : Int) < (n : Int) := by omega
    obtain ⟨x, hxx⟩ : ∃ x, l[j]? = some x := ⟨_, List.getElem?_eq_getElem (by rw [← HN.out]; exact hjn)⟩
    obtain ⟨gr, cr', e0, -, -, hgr, -, hcl⟩ := row_at HRow.out (by omega)
    cases e0
    obtain ⟨q0, q1, q2, q3, q4⟩ := lss_at l j x hxx
    have d0 := old_cell HO.out.base (hcl _ _ q0)
    have d1 := old_cell HO.out.base (hcl _ _ q1)
    have d2 := old_cell HO.out.base (hcl _ _ q2)
    have d3 := old_cell HO.out.base (hcl _ _ q3)
    have d4 := old_cell HO.out.base (hcl _ _ q4)
    have hgr1 : gr < wr.heap.size := Nat.lt_of_lt_of_le hgr HO.out.base.size
    have hxo := HL.out.each x (List.mem_of_getElem? hxx)
    have HSn : Hid ((l.take (j + 1)).filter (standB t) = if standB t x = true then (l.take j).filter (standB t) ++ [x] else (l.take j).filter (standB t)) := by
      show _ = _
      rw [take_snocL hxx, List.filter_append, List.filter_cons, List.filter_nil]
      by_cases h : standB t x = true
      · simp [h]
      · simp [h]
    have HFl : Hid (((l.take j).filter (standB t)).length ≤ j) := by
      show _ ≤ _
      refine Nat.le_trans (List.length_filter_le _ _) ?_
      rw [List.length_take]
      omega
    obtain ⟨xid, nv, ns, fr, tt, vd⟩ := x
    dsimp only at d0 d1 d2 d3 d4 hxo
    obtain ⟨yn, cn, hnv, -⟩ := hxo.nv
    dsimp only at hnv
    subst hnv
    obtain ⟨m, hm⟩ : ∃ m, m = ns.length := ⟨_, rfl⟩
    rw [← hm] at d1 HSn
    clear hm hcl q0 q1 q2 q3 q4 hgr hxx hxo
    go_upto_region 8 with fail
    clear d0 d1 d2 d3 d4 hgr1
    have hoA := HO.out.box (.cells #[.string (bs xid), .slice yn m cn, .int .i64 fr, .int .i64 tt, .bool vd] 57 (0, 0))
    obtain ⟨b9, hb9⟩ : ∃ x, x = wr.heap.size := ⟨_, rfl⟩
    obtain ⟨W5, hW5⟩ : ∃ W, W = wr.alloc (.cells #[.string (bs xid), .slice yn m cn, .int .i64 fr, .int .i64 tt, .bool vd] 57) := ⟨_, rfl⟩
    rw [← hW5, ← hb9] at hoA ⊢
    clear hW5 hb9
    have hbk := hoA.blk
    have c0 : W5.cell? ⟨b9, 0, none⟩ = some (.string (bs xid)) := by rw [cell_of_heap hbk.1]; rfl
    have c1 : W5.cell? ⟨b9, 1, none⟩ = some (.slice yn m cn) := by rw [cell_of_heap hbk.1]; rfl
    have c2 : W5.cell? ⟨b9, 2, none⟩ = some (.int .i64 fr) := by rw [cell_of_heap hbk.1]; rfl
    have c3 : W5.cell? ⟨b9, 3, none⟩ = some (.int .i64 tt) := by rw [cell_of_heap hbk.1]; rfl
    have c4 : W5.cell? ⟨b9, 4, none⟩ = some (.bool vd) := by rw [cell_of_heap hbk.1]; rfl
    have l3 := lt_of_block hbk.1
    replace HO := Lib.hid hoA.pop
    clear hbk hoA
    rcases vd with _ | _
    · by_cases h1 : fr ≤ t
      · by_cases h2 : tt = -1
        · subst h2
          have hoA := HO.out.box (.cells #[.string (bs xid), .slice yn m cn] 27 (0, 0))
          go_wp2_with (refine wpList_plain rfl fun K hK => wp_append (.tmp 48) (.tmp 51) 35 (by rfl) 27 _ 2 40 Tryz.underlying35 info_en (by rfl) (by omega) _ ((l.take j).filter (standB t)).length _ (by rfl) hoA.pop.row W5.heap.size 1 1 [.string (bs xid), .slice yn m cn] (by rfl) (by rfl) 27 (by exact hoA.blk.1) (by simp [Value.oneCell']) (by have := HFl.out; omega) (by have := HFl.out; omega) ?_; intro v2 w9 hrow hgrow hblk; refine hK _ _ ?_)
          have hO2 := Owns.rowGrew hoA.swap hrow hgrow hblk
          replace HO := Lib.hid hO2.swap.pop
          clear hoA hrow hgrow hblk hO2 c0 c1 c2 c3 c4 l3
          go_wp2_with fail
          go_roundw
          case rel => exact ⟨j + 1, by omega, by go_num, by rw [HSn.out, if_pos (by simp [standB, *]), nrow_snoc]; exact HO⟩
          case measure => simp [intOf]; omega
        · have h2' : (tt == -1) = false := by simpa using h2
          by_cases h3 : t < tt
          · have hoA := HO.out.box (.cells #[.string (bs xid), .slice yn m cn] 27 (0, 0))
            go_wp2_with (refine wpList_plain rfl fun K hK => wp_append (.tmp 48) (.tmp 51) 35 (by rfl) 27 _ 2 40 Tryz.underlying35 info_en (by rfl) (by omega) _ ((l.take j).filter (standB t)).length _ (by rfl) hoA.pop.row W5.heap.size 1 1 [.string (bs xid), .slice yn m cn] (by rfl) (by rfl) 27 (by exact hoA.blk.1) (by simp [Value.oneCell']) (by have := HFl.out; omega) (by have := HFl.out; omega) ?_; intro v2 w9 hrow hgrow hblk; refine hK _ _ ?_)
            have hO2 := Owns.rowGrew hoA.swap hrow hgrow hblk
            replace HO := Lib.hid hO2.swap.pop
            clear hoA hrow hgrow hblk hO2 c0 c1 c2 c3 c4 l3
            go_wp2_with fail
            go_roundw
            case rel => exact ⟨j + 1, by omega, by go_num, by rw [HSn.out, if_pos (by simp [standB, *]), nrow_snoc]; exact HO⟩
            case measure => simp [intOf]; omega
          · go_wp2_with fail
            clear c0 c1 c2 c3 c4 l3
            go_roundw
            case rel => exact ⟨j + 1, by omega, by go_num, by rw [HSn.out, if_neg (by simp [standB, *])]; exact HO⟩
            case measure => simp [intOf]; omega
      · go_wp2_with fail
        clear c0 c1 c2 c3 c4 l3
        go_roundw
        case rel => exact ⟨j + 1, by omega, by go_num, by rw [HSn.out, if_neg (by simp [standB, *])]; exact HO⟩
        case measure => simp [intOf]; omega
    · go_wp2_with fail
      clear c0 c1 c2 c3 c4 l3
      go_roundw
      case rel => exact ⟨j + 1, by omega, by go_num, by rw [HSn.out, if_neg (by simp [standB, *])]; exact HO⟩
      case measure => simp [intOf]; omega
  · obtain rfl : j = n := by omega
    clear hjn hj
    go_wp2_with fail
    refine bodyPost_ret at_res (by rfl) ⟨_, rfl, ?_⟩
    have h := HO.out
    rw [HN.out, List.take_length] at h
    rw [HA.out]
    exact h
end Go.Proofs.YtckocgkndbdhcaaGreatDoor
