/-
  A change is applied to a list.
-/
import Derived.Test.YtckocgkndbdhcaaGreatDoorNwList
import Derived.Lib.SliceRun
namespace Go.Cz.Nw
open Go.Cz.Lx
/-- The place of an Id. -/
def placeOf (id : Bytes) (l : List Lst) : Option Nat := l.findIdx? fun x => x.id == id
def turned (x : Lst) (c : Chg) : Lst := if c.k = 2 then { x with til := c.at_ } else if c.k = 3 then { x with id := c.eid, nv := c.nv, ns := c.ns } else { x with vd := true }
/-- The error of a change, and the list behind it. -/
def applyE (l : List Lst) (c : Chg) : Int :=
  if formedB c = false then 1
  else match placeOf c.id l with
    | some j => if c.k = 1 then 9 else match l[j]? with
      | some x => if x.vd || (c.k == 2 && x.til != -1) then 12 else if c.k == 2 && decide (c.at_ ≤ x.fr) then 14 else 0
      | none => 0
    | none => if c.k = 1 then (if l.length = 400 then 2 else 0) else 11
def applyL (l : List Lst) (c : Chg) : List Lst :=
  if applyE l c ≠ 0 then l
  else match placeOf c.id l with
    | some j => match l[j]? with
      | some x => l.set j (turned x c)
      | none => l
    | none => l ++ [⟨c.eid, c.nv, c.ns, c.at_, -1, false⟩]
theorem place_some {id : Bytes} {l : List Lst} {j : Nat} (h : placeOf id l = some j) : ∃ x, l[j]? = some x ∧ x.id = id := by
  unfold placeOf at h
  rw [List.findIdx?_eq_some_iff_getElem] at h
  obtain ⟨h1, h2, -⟩ := h
  exact ⟨l[j], List.getElem?_eq_getElem h1, by simpa using h2⟩
theorem place_none {id : Bytes} {l : List Lst} (h : placeOf id l = none) : id ∉ l.map (·.id) := by
  unfold placeOf at h
  rw [List.findIdx?_eq_none_iff] at h
  intro hx
  obtain ⟨x, h1, h2⟩ := List.mem_map.1 hx
  have := h x h1
  simp [h2] at this
end Go.Cz.Nw
namespace Go.Proofs.YtckocgkndbdhcaaGreatDoor
open Go.RowKit Go.Cz Go.Cz.Nw Go.Cz.Lx Go.ChangeMaps
set_option linter.unusedSimpArgs false
set_option linter.unusedVariables false
attribute [local go_sem] bs_size bs_extract bs_append bs_toList
attribute [local irreducible] cList cPlan cWalk
/-- append(s, x): the cells of x are read wherever they lie. -/
theorem wp_append2 {P : Program} {o : Oper} {a : Act} {K : Act → World → Prop} {Q : Exit → Act → World → Prop} {w : World} (s x : Operand) (t : TypeId)
    (ho : o.op = .call { callee := .builtin .append, args := #[s, x], argTypes := #[t, t] })
    (e : TypeId) (z : Value) (size bytes : Nat) (ht : P.underlying t = some (.slice e)) (hinfo : (P.info? e).map (fun i => (i.zero, i.size, i.bytes)) = some (some z, size, bytes))
    (hzs : z.cells.size = size) (hsz : 0 < size)
    (v : Value) (n : Nat) (xs : List Value) (hs : a.eval s = v) (hown : w.ownsRow 0 e size v n xs)
    (xb c m : Nat) (news : List Value) (hx : a.eval x = .slice (some ⟨xb, 0, none⟩) m c) (hl : news.length = m * size) (hb : ∀ (j : Nat) (u : Value), news[j]? = some u → w.cell? ⟨xb, j, none⟩ = some u) (h1 : ∀ u ∈ news, u.oneCell' = true)
    (h63 : (n + m) * bytes ≤ 140737488355328) (h64 : n + m ≤ 140737488355328)
    (h : ∀ v' w', w'.ownsRow 0 e size v' (n + m) (xs ++ news) → w.grownBy w' v.ownBlock → (v'.ownBlock = v.ownBlock ∨ v'.ownBlock = some w.heap.size) → K (a.put o.dst v') w') : o.wp P a w K Q := by
  obtain ⟨i, hi, hz, hs1, hb1⟩ := info_parts hinfo
  have hnews : ∀ j u, news[j]? = some u → w.cell? ((⟨xb, 0, none⟩ : Addr).add j) = some u := by
    intro j u hu
    have hadd : (⟨xb, 0, none⟩ : Addr).add j = ⟨xb, j, none⟩ := by unfold Addr.add; split <;> simp_all
    rw [hadd]
    exact hb j u hu
  obtain ⟨v', w', hr, h2, h3, _, h5⟩ := run_append_own_at (P := P) w 0 t o.type e i z size bytes ht hi hz hs1 hb1 hzs hsz v n xs hown ⟨xb, 0, none⟩ m c news hl hnews h1 (by unfold maxLen; omega) h63 (Nat.zero_le _)
  unfold Oper.wp execOp
  simp only [ho, resolve, invoke, builtin, Sem.run_bind, Sem.run_pure, Result.andThen_ok, List.map_toArray, List.map_cons, List.map_nil, hs, hx, hr]
  exact h v' w' h2 h3 h5
theorem info_ls : (Tryz.prog.info? 57).map (fun i => (i.zero, i.size, i.bytes)) = some (some (.agg #[.string ⟨#[]⟩, .slice none 0 0, .int .i64 0, .int .i64 0, .bool false]), 5, 64) := by kernel_rfl
/-- The names of the entries are slices. -/
def SlV (l : List Lst) : Prop := ∀ x ∈ l, ∃ y n c, x.nv = .slice y n c
theorem lss_one {l : List Lst} (h : SlV l) : ∀ u ∈ lss l, u.oneCell' = true := by
  intro u hu
  obtain ⟨x, hx, hu⟩ := List.mem_flatMap.1 hu
  obtain ⟨y, n, c, e⟩ := h x hx
  simp only [lsl, List.mem_cons, List.not_mem_nil, or_false] at hu
  rcases hu with rfl | rfl | rfl | rfl | rfl
  · rfl
  · rw [e]; rfl
  · rfl
  · rfl
  · rfl
abbrev lrow (v : Value) (l : List Lst) : Piece := rowP 57 5 v l.length (lss l)
set_option maxRecDepth 100000 in
set_option maxHeartbeats 2000000 in
theorem lclone_c {w0 : World} {ps : List Piece} (l : List Lst) (v : Value) (w : World) (hs : SlV l) (hl : l.length ≤ 400) (h : Owns w0 w (lrow v l :: ps)) :
    Calls Tryz.prog 30 #[v] w fun e w' => ∃ v', e = .returned v' ∧ Owns w0 w' (lrow v' l :: lrow v l :: ps) ∧ Below w.heap.size w w' := by
  obtain ⟨y, c, rfl⟩ := row_form h.row
  obtain ⟨n, hn⟩ : ∃ n, n = l.length := ⟨_, rfl⟩
  have HN := Lib.hid hn
  rcases y with _ | ad
  · have h0 : l = [] := by
      rcases h.row.2 with ⟨h1, h2⟩ | ⟨g, c', cur, h1, -⟩
      · exact List.length_eq_zero_iff.1 h2
      · cases h1
    have hc0 : c = 0 := by
      rcases h.row.2 with ⟨h1, h2⟩ | ⟨g, c', cur, h1, -⟩
      · simp at h1; exact h1.2
      · cases h1
    subst h0
    subst hc0
    have HO := Lib.hid (h.rowNil 57 5)
    have he : (binOp .eql 30 (.slice none 0 0) (.slice none 0 0)).run Tryz.prog w = .ok (.bool true) w := Lib.run_eql_slice_nil w _ 57 _ 0 0 0 0 (by kernel_rfl)
    clear h hn
    go_enter Tryz.func30, Tryz.ntmps30
    go_wp2_with fail
    go_ret
    exact ⟨_, rfl, HO.out, Below.refl _ _⟩
  · obtain ⟨W1, hW1⟩ : ∃ W, W = w.alloc (.cells #[] 57) := ⟨_, rfl⟩
    obtain ⟨g1, hg1⟩ : ∃ x, x = w.heap.size := ⟨_, rfl⟩
    have HO : Hid (Owns w0 W1 (rowP 57 5 (.slice (some ⟨g1, 0, none⟩) 0 0) 0 [] :: rowP 57 5 (.slice (some ad) n c) n (lss l) :: ps)) := by
      have h1 := h.rowLit (e := 57) (size := 5) (n := 0) [] (by unfold maxLen; omega) (by simp)
      rw [hW1, hg1, hn]
      exact Lib.hid h1
    have hr := HO.out.swap.row
    obtain ⟨g, cur, hbg, rfl, hcs⟩ : ∃ g cur, W1.heap[g]? = some (.cells cur 57 (0, 0)) ∧ ad = ⟨g, 0, none⟩ ∧ ∀ (j : Nat) (u : Value), (lss l)[j]? = some u → W1.cell? ⟨g, j, none⟩ = some u := by
      rcases hr.2 with ⟨h1, h2⟩ | ⟨g, c', cur, h1, h2, h3, h4, h5, h6, h7⟩
      · cases h1
      · cases h1
        refine ⟨g, cur, h3, rfl, fun j u hu => ?_⟩
        rw [cell_of_heap h3]
        rw [← h7, List.getElem?_take] at hu
        split at hu
        · simpa using hu
        · cases hu
    have he : (binOp .eql 30 (.slice (some ⟨g, 0, none⟩) n c) (.slice none 0 0)).run Tryz.prog w = .ok (.bool false) w := Lib.run_eql_slice_nil w _ 57 _ n c 0 0 (by kernel_rfl)
    rw [← hn] at hl ⊢
    have hll : (lss l).length = n * 5 := by rw [lss_len, hn]
    clear h hr hn
    go_enter Tryz.func30, Tryz.ntmps30
    go_wp2_with (refine wpList_plain rfl fun K hK => wp_append2 (.tmp 5) (.tmp 6) 30 (by rfl) 57 _ 5 64 Tryz.underlying30 info_ls (by rfl) (by omega) (.slice (some ⟨w.heap.size, 0, none⟩) 0 0) 0 [] (by rfl) (by rw [← hW1, ← hg1]; exact HO.out.row) g c n (lss l) (by rfl) hll (by rw [← hW1]; exact hcs) (lss_one hs) (by omega) (by omega) ?_; intro v2 w9 hrow hgrow hblk; refine hK _ _ ?_; rw [← hW1, ← hg1] at hgrow; rw [← hg1, ← hW1] at hblk)
    have HO2 := Lib.hid (Owns.rowGrew HO.out hrow hgrow hblk)
    have HBl : Hid (Below w.heap.size w w9) := by
      have hb1 : Below w.heap.size w W1 := by rw [hW1]; exact (Below.refl _ _).alloc (Nat.le_refl _) _
      exact hb1.grown hgrow hb1.size (fun k e => by simp [Value.ownBlock] at e; omega)
    clear hrow hgrow hblk he hW1 hg1 HO
    go_wp2_with fail
    go_ret
    refine ⟨_, rfl, ?_, HBl.out⟩
    have h2 := HO2.out
    simp only [Nat.zero_add, List.nil_append] at h2
    have e2 := HN.out
    clear HN hcs hll
    subst e2
    exact h2
end Go.Proofs.YtckocgkndbdhcaaGreatDoor
