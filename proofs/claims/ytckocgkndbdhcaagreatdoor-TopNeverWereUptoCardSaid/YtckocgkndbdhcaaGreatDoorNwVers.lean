/-
  A version for each change: w11Versions.
-/
import Derived.Test.YtckocgkndbdhcaaGreatDoorNwFew
namespace Go.Proofs.YtckocgkndbdhcaaGreatDoor
open Go.RowKit Go.Cz Go.Cz.Nw Go.Cz.Lx Go.ChangeMaps
set_option linter.unusedSimpArgs false
set_option linter.unusedVariables false
attribute [local go_sem] bs_size bs_extract bs_append bs_toList
attribute [local irreducible] cList cPlan
theorem alloc_size1 (w : World) (o : Obj) : (w.alloc o).heap.size = w.heap.size + 1 := Array.size_push _
/-- The cells of an act that is a change. -/
def actL (c : Chg) : List Value := [.int .i64 1, .int .i64 c.k, .string (bs c.id), .string (bs c.eid), c.nv, .int .i64 c.at_,
  .string ⟨#[]⟩, .string ⟨#[]⟩, .int .i64 0, .string ⟨#[]⟩, .int .i64 0, .string ⟨#[]⟩, .int .i64 0, .int .i64 0, .slice none 0 0, .int .i64 0, .int .i64 0, .int .i64 0,
  .string ⟨#[]⟩, .slice none 0 0, .slice none 0 0, .int .i64 0, .int .i64 0, .int .i64 0, .int .i64 0,
  .string ⟨#[]⟩, .string ⟨#[]⟩, .string ⟨#[]⟩, .string ⟨#[]⟩, .string ⟨#[]⟩, .slice none 0 0, .int .i64 0, .int .i64 0, .int .i64 0, .int .i64 0,
  .string ⟨#[]⟩, .int .i64 0]
def verL (a : Nat) : List Value := [.int .i64 0, .int .i64 0, .int .i64 0, .string ⟨#[]⟩, .slice (some ⟨a, 0, none⟩) 1 1, .int .i64 0, .slice none 0 0, .slice none 0 0]
def vers (l : List (Nat × Chg)) : List Value := l.flatMap fun p => verL p.1
theorem vers_snoc (l : List (Nat × Chg)) (p : Nat × Chg) : vers (l ++ [p]) = vers l ++ verL p.1 := by simp [vers]
theorem vers_at : ∀ (l : List (Nat × Chg)) (j : Nat) (p : Nat × Chg), l[j]? = some p → ∀ i, i < 8 → (vers l)[j * 8 + i]? = (verL p.1)[i]?
  | [], j, p, h, _, _ => by simp at h
  | q :: r, 0, p, h, i, hi => by
    simp at h
    subst h
    have e : vers (q :: r) = verL q.1 ++ vers r := rfl
    rw [e, Nat.zero_mul, Nat.zero_add, List.getElem?_append_left (by simp [verL]; omega)]
  | q :: r, j + 1, p, h, i, hi => by
    have h1 := vers_at r j p (by simpa using h) i hi
    have e : vers (q :: r) = verL q.1 ++ vers r := rfl
    rw [e, List.getElem?_append_right (by simp [verL]; omega), ← h1]
    congr 1
    simp [verL]
    omega
def acts (l : List (Nat × Chg)) : List Piece := l.map fun p => blk p.1 (.cells (actL p.2).toArray 81 (0, 0))
theorem acts_bk {w w' : World} : ∀ (l : List (Nat × Chg)), Owns w w' (acts l) → ∀ p ∈ l, Bk w' p.1 (actL p.2).toArray 81
  | [], _, p, hp => by simp at hp
  | q :: r, h, p, hp => by
    have h1 : Owns w w' (blk q.1 (.cells (actL q.2).toArray 81 (0, 0)) :: acts r) := h
    rcases List.mem_cons.1 hp with rfl | hp
    · exact h1.blk.1
    · exact acts_bk r h1.pop p hp
theorem info_ve : (Tryz.prog.info? 70).map (fun i => (i.zero, i.size, i.bytes)) = some (some (.agg #[.int .i64 0, .int .i64 0, .int .i64 0, .string ⟨#[]⟩, .slice none 0 0, .int .i64 0, .slice none 0 0, .slice none 0 0]), 8, 120) := by kernel_rfl
/-- Versions, each with one act that is a change. -/
def IsVers (w : World) (v : Value) (cs : List Chg) : Prop := ∃ y c, v = .slice y cs.length c ∧ ∀ (j : Nat) (x : Chg), cs[j]? = some x → ∃ g o a, y = some ⟨g, o, none⟩ ∧ g < w.heap.size ∧
  w.cell? ⟨g, o + j * 8 + 3, none⟩ = some (.string ⟨#[]⟩) ∧ w.cell? ⟨g, o + j * 8 + 4, none⟩ = some (.slice (some ⟨a, 0, none⟩) 1 1) ∧ w.cell? ⟨g, o + j * 8 + 6, none⟩ = some (.slice none 0 0) ∧ w.cell? ⟨g, o + j * 8 + 7, none⟩ = some (.slice none 0 0) ∧ Bk w a (actL x).toArray 81
theorem is_vers {w w' : World} {v : Value} {cs : List Chg} {L : List (Nat × Chg)} (hL : L.map (·.2) = cs.reverse) (h : Owns w w' (rowP 70 8 v cs.length (vers L.reverse) :: acts L)) : IsVers w' v cs := by
  obtain ⟨y, c, rfl⟩ := row_form h.row
  refine ⟨y, c, rfl, fun j x hx => ?_⟩
  have hj : j < cs.length := (List.getElem?_eq_some_iff.1 hx).1
  obtain ⟨g, cr, e0, -, -, hg, -, hcl⟩ := row_at h.row (by omega)
  cases e0
  have hm : L.reverse.map (·.2) = cs := by rw [List.map_reverse, hL, List.reverse_reverse]
  obtain ⟨p, hp, hpx⟩ : ∃ p, L.reverse[j]? = some p ∧ p.2 = x := by
    rw [← hm, List.getElem?_map] at hx
    simpa using hx
  have hbk := acts_bk L h.pop p (List.mem_reverse.1 (List.mem_of_getElem? hp))
  rw [hpx] at hbk
  refine ⟨g, 0, p.1, rfl, hg, ?_, ?_, ?_, ?_, hbk⟩ <;> rw [Nat.zero_add] <;> refine hcl _ _ ?_ <;> rw [vers_at _ _ _ hp _ (by omega)] <;> rfl
theorem ve_res {W : World} {tmps : Array Value} : (results Tryz.f15 tmps).run Tryz.prog W = .ok (tmps.getD 4 undef) W := by
  simp [results, Tryz.results15, go_sem]
set_option maxRecDepth 100000 in
set_option maxHeartbeats 4000000 in
theorem versions_c (cs : List Chg) (v : Value) (w : World) (hv : IsChgs w v cs) (hn4 : cs.length ≤ 1048576) :
    Calls Tryz.prog 15 #[.int .i64 0, v] w fun e w' => ∃ v', e = .returned v' ∧ IsVers w' v' cs ∧ Below w.heap.size w w' := by
  have HV := Lib.hid hv
  obtain ⟨y, cc, rfl, -⟩ := hv
  obtain ⟨n, hn⟩ : ∃ n, n = cs.length := ⟨_, rfl⟩
  have HN := Lib.hid hn
  rw [← hn] at HV hn4 ⊢
  have H0 : Hid (Owns w w (rowP 70 8 (.slice none 0 0) 0 (vers ([] : List (Nat × Chg)).reverse) :: acts [])) := Lib.hid ((Owns.start w).rowNil 70 8)
  clear hn
  go_enter Tryz.func15, Tryz.ntmps15
  go_wp2_with fail
  go_loopw [5, 6] (fun r5 i wr => ∃ j : Nat, j ≤ n ∧ i = .int .i64 (j : Int) ∧ ∃ L : List (Nat × Chg), Hid (L.map (·.2) = (cs.take j).reverse) ∧ Hid (Owns w wr (rowP 70 8 r5 j (vers L.reverse) :: acts L))) (fun _ i _ => n - (intOf i).toNat)
  case atStart => exact ⟨0, Nat.zero_le _, rfl, [], Lib.hid (by simp), H0⟩
  clear H0
  obtain ⟨j, hj, rfl, L, HL, HO⟩ := hrel
  by_cases hjn : j < n
  · have hlt : (j : Int) < (n : Int) := by omega
    obtain ⟨x, hxx⟩ : ∃ x, cs[j]? = some x := ⟨_, List.getElem?_eq_getElem (by rw [← HN.out]; exact hjn)⟩
    obtain ⟨y', cc', e0, hcell⟩ := HV.out
    cases e0
    obtain ⟨g, o, rfl, hg, d0, d1, d2, d3, d4, hnm⟩ := hcell j x hxx
    replace d0 := old_cell HO.out.base d0
    replace d1 := old_cell HO.out.base d1
    replace d2 := old_cell HO.out.base d2
    replace d3 := old_cell HO.out.base d3
    replace d4 := old_cell HO.out.base d4
    have hg1 : g < wr.heap.size := Nat.lt_of_lt_of_le hg HO.out.base.size
    have HL2 : Hid (cs.take (j + 1) = cs.take j ++ [x]) := by
      show _ = _
      obtain ⟨hj, rfl⟩ := List.getElem?_eq_some_iff.1 hxx
      exact List.take_succ_eq_append_getElem hj
    obtain ⟨k, id, eid, nv, ns, t⟩ := x
    dsimp only at d0 d1 d2 d3 d4 hnm
    obtain ⟨yn, cn, hnv, -⟩ := hnm
    subst hnv
    obtain ⟨m, hm⟩ : ∃ m, m = ns.length := ⟨_, rfl⟩
    have HM := Lib.hid hm
    rw [← hm] at d3
    clear hcell hxx hg hm
    have ho1 := (HO.out.box (.cells (actL ⟨k, id, eid, .slice yn m cn, ns, t⟩).toArray 81 (0, 0))).swap
    have hoA := ho1.box (.cells (verL wr.heap.size).toArray 70 (0, 0))
    have hsz : (wr.alloc (.cells (actL ⟨k, id, eid, .slice yn m cn, ns, t⟩).toArray 81 (0, 0))).heap.size = wr.heap.size + 1 := alloc_size1 _ _
    rw [hsz] at hoA
    clear hsz
    go_wp2_with (refine wpList_plain rfl fun K hK => wp_append (.tmp 13) (.tmp 22) 48 (by rfl) 70 _ 8 120 Tryz.underlying48 info_ve (by rfl) (by omega) _ j _ (by rfl) hoA.pop.row _ 1 1 (verL wr.heap.size) (by rfl) (by rfl) 70 (by exact hoA.blk.1) (by simp [Value.oneCell', verL]) (by omega) (by omega) ?_; intro v2 w9 hrow hgrow hblk; refine hK _ _ ?_)
    have hO2 := Owns.rowGrew hoA.swap hrow hgrow hblk
    have HO2 := Lib.hid hO2.swap.pop
    clear hoA ho1 hrow hgrow hblk hO2 d0 d1 d2 d3 d4 hg1 HO
    go_wp2_with fail
    go_roundw
    case rel =>
      refine ⟨j + 1, by omega, by go_num, (wr.heap.size, ⟨k, id, eid, .slice yn m cn, ns, t⟩) :: L, Lib.hid ?_, Lib.hid ?_⟩
      · rw [HL2.out, List.reverse_append, HM.out]
        show _ :: List.map _ L = _
        rw [HL.out]
        rfl
      · rw [List.reverse_cons, vers_snoc]
        exact HO2.out
    case measure => simp [intOf]; omega
  · obtain rfl : j = n := by omega
    clear hjn hj
    go_wp2_with fail
    refine bodyPost_ret ve_res (by rfl) ⟨_, rfl, ?_, HO.out.base⟩
    have h1 := HL.out
    have h2 := HO.out
    rw [HN.out, List.take_length] at h1
    rw [HN.out] at h2
    exact is_vers h1 h2
end Go.Proofs.YtckocgkndbdhcaaGreatDoor
