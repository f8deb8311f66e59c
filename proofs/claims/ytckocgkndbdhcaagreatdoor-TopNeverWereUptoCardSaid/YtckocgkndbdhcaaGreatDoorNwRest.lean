/-
  Changes as a row of the law's own.
-/
import Derived.Test.YtckocgkndbdhcaaGreatDoorNwLaw
import Derived.Test.YtckocgkndbdhcaaGreatDoorNwHead
namespace Go.Cz.Nw
open Go.Cz.Lx
def chl (c : Chg) : List Value := [.int .i64 c.k, .string (bs c.id), .string (bs c.eid), c.nv, .int .i64 c.at_]
def chs (l : List Chg) : List Value := l.flatMap chl
theorem chs_snoc (l : List Chg) (c : Chg) : chs (l ++ [c]) = chs l ++ chl c := by simp [chs]
theorem chs_at : ∀ (l : List Chg) (j : Nat) (x : Chg), l[j]? = some x → (chs l)[j * 5]? = some (.int .i64 x.k) ∧ (chs l)[j * 5 + 1]? = some (.string (bs x.id)) ∧ (chs l)[j * 5 + 2]? = some (.string (bs x.eid)) ∧ (chs l)[j * 5 + 3]? = some x.nv ∧ (chs l)[j * 5 + 4]? = some (.int .i64 x.at_)
  | [], j, x, h => by simp at h
  | a :: r, 0, x, h => by
    simp at h
    subst h
    simp [chs, chl]
  | a :: r, j + 1, x, h => by
    have h1 := chs_at r j x (by simpa using h)
    have e : chs (a :: r) = chl a ++ chs r := rfl
    have e0 : ∀ i, (chl a ++ chs r)[(j + 1) * 5 + i]? = (chs r)[j * 5 + i]? := fun i => by
      rw [List.getElem?_append_right (by simp [chl]; omega)]
      congr 1
      simp [chl]
      omega
    have e1 := e0 0
    simp only [Nat.add_zero] at e1
    rw [e, e1, e0, e0, e0, e0]
    exact h1
theorem prop_len {id : Bytes} {ns : List Nm} (h : propB id ns = true) : ns.length ≤ 8 := by
  unfold propB at h
  simp at h
  exact h.2.1.2
end Go.Cz.Nw
namespace Go.Proofs.YtckocgkndbdhcaaGreatDoor
open Go.RowKit Go.Cz Go.Cz.Nw Go.Cz.Lx Go.ChangeMaps
abbrev crow (v : Value) (l : List Chg) : Piece := rowP 29 5 v l.length (chs l)
theorem info_ch : (Tryz.prog.info? 29).map (fun i => (i.zero, i.size, i.bytes)) = some (some (.agg #[.int .i64 0, .string ⟨#[]⟩, .string ⟨#[]⟩, .slice none 0 0, .int .i64 0]), 5, 72) := by kernel_rfl
theorem chs_is {w0 w : World} {v : Value} {l : List Chg} (h : Owns w0 w [crow v l]) (hn : ∀ c ∈ l, IsNames w c.nv c.ns) : IsChgs w v l := by
  obtain ⟨y, c, rfl⟩ := row_form h.row
  refine ⟨y, c, rfl, fun j x hx => ?_⟩
  have hj : j < l.length := (List.getElem?_eq_some_iff.1 hx).1
  obtain ⟨g, cr, e0, -, -, hg, -, hcl⟩ := row_at h.row (by omega)
  cases e0
  obtain ⟨q0, q1, q2, q3, q4⟩ := chs_at l j x hx
  refine ⟨g, 0, rfl, hg, ?_, ?_, ?_, ?_, ?_, hn x (List.mem_of_getElem? hx)⟩ <;> rw [Nat.zero_add]
  · exact hcl _ _ q0
  · exact hcl _ _ q1
  · exact hcl _ _ q2
  · exact hcl _ _ q3
  · exact hcl _ _ q4
theorem crow_snoc (v : Value) (l : List Chg) (x : Chg) : crow v (l ++ [x]) = rowP 29 5 v (l.length + 1) (chs l ++ chl x) := by
  unfold crow
  rw [List.length_append, chs_snoc]
  rfl
theorem take_ok {w : World} {cs : List Chg} (hok : ∀ c ∈ cs, ChgOk c ∧ IsNames w c.nv c.ns) (hl : cs.length ≤ 8) (i : Nat) : ListOk w (runL [] (cs.take i)) ∧ (runL [] (cs.take i)).length ≤ 8 := by
  have ht : (cs.take i).length ≤ 8 := by rw [List.length_take]; omega
  obtain ⟨h1, h2⟩ := runL_ok (w := w) (cs.take i) [] (listok_nil w) (by simp; omega) fun c hc => hok c (List.mem_of_mem_take hc)
  exact ⟨h1, by simp at h2; omega⟩
theorem law_all {w : World} (id : Bytes) {cs : List Chg} (hok : ∀ c ∈ cs, ChgOk c ∧ IsNames w c.nv c.ns) (hl : cs.length ≤ 8) :
    runL [] (cs.filter (neC id)) = (runL [] cs).filter (neL id) ∧ SubI id (runL [] cs) (track id [] sub0 cs) := by
  have h := never_law id cs (fun i => (take_ok hok hl i).1.ids) (fun i => by have := (take_ok hok hl i).2; omega) cs.length (Nat.le_refl _)
  rw [List.take_length] at h
  exact h
end Go.Proofs.YtckocgkndbdhcaaGreatDoor
