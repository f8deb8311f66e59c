/-
  A region whose order of evaluation is open, in which a call may panic: every operation that is ready comes next.
-/
import Derived.Test.YtoeknmkephnekaaGreatDoorBase
import Derived.Lib.Hide
namespace Go.Cz
open Go.RowKit
section
variable {P : Program} {Q : Exit → Act → World → Prop} {f : Nat} {listed : Array Bool} {a : Act} {w : World}
/-- The operations that are left, in any order. -/
def pAny (P : Program) (l : Array Oper) (Q : Exit → Act → World → Prop) (f : Nat) (listed : Array Bool) (a : Act) (w : World) : Prop := wpAny P .any l Q f listed a w
/-- One operation, then the others. -/
def pOp (P : Program) (l : Array Oper) (Q : Exit → Act → World → Prop) (i : Nat) (f : Nat) (listed : Array Bool) (a : Act) (w : World) : Prop := wpOp P l Q i (wpAny P .any l Q f listed) a w
theorem wp_region_pan {l : Array Oper} {id : Nat} (n : Nat) (hn : l.size = n) (hm : P.follows .mixedOrders = true)
    (h : pAny P l Q n (Array.replicate n false) a w.drew) : (Code.region id l true).wp P Q a w := by
  subst hn
  exact wp_region_any hm h
theorem pw_one {l : Array Oper} (i : Nat) (hr : Region.ready .any l listed = [i]) (h : pOp P l Q i f (listed.setIfInBounds i true) a w) : pAny P l Q (f + 1) listed a w :=
  wpAny_all hr (by simp) fun k hk => by
    simp only [List.mem_cons, List.not_mem_nil, or_false] at hk
    subst hk
    exact h
theorem pw_two {l : Array Oper} (i j : Nat) (hr : Region.ready .any l listed = [i, j]) (h1 : pOp P l Q i f (listed.setIfInBounds i true) a w) (h2 : pOp P l Q j f (listed.setIfInBounds j true) a w) : pAny P l Q (f + 1) listed a w :=
  wpAny_all hr (by simp) fun k hk => by
    simp only [List.mem_cons, List.not_mem_nil, or_false] at hk
    rcases hk with rfl | rfl
    · exact h1
    · exact h2
theorem pw_nil {l : Array Oper} (hr : Region.ready .any l listed = []) (h : Q .normal a w) : pAny P l Q f listed a w := wpAny_done hr h f
theorem pw_at {l : Array Oper} (listed' : Array Bool) (hl : listed = listed') (h : pAny P l Q f listed' a w) : pAny P l Q f listed a w := hl ▸ h
theorem pw_do {ls : List Oper} {i : Nat} {o : Oper} (ho : nth ls i = some o) (hg : o.guard = none)
    (h : ∀ K : Act → World → Prop, (∀ a w, pAny P ls.toArray Q f listed a w → K a w) → o.wp P a w K Q) : pOp P ls.toArray Q i f listed a w := by
  unfold pOp wpOp
  simp only [nth_eq, ho, Region.wanted, hg, if_true]
  exact .inl (h _ fun a' w' hh => hh)
theorem pw_yes {ls : List Oper} {i j : Nat} {b : Bool} {o : Oper} (ho : nth ls i = some o) (hg : o.guard = some (j, b)) (hy : yielded ls.toArray a.tmps j = some b)
    (h : ∀ K : Act → World → Prop, (∀ a w, pAny P ls.toArray Q f listed a w → K a w) → o.wp P a w K Q) : pOp P ls.toArray Q i f listed a w := by
  unfold pOp wpOp
  simp only [nth_eq, ho, Region.wanted, hg, hy, beq_self_eq_true, if_true]
  exact .inl (h _ fun a' w' hh => hh)
/-- An operation whose value does not hang on the world is taken first. -/
theorem pw_take {ls : List Oper} {o : Oper} {v : Value} (i : Nat) (ho : nth ls i = some o) (hs : Region.noSelect ls.toArray = true) (hf : Region.free .any ls.toArray listed i = true) (hr : (Region.ready .any ls.toArray listed).contains i = true)
    (hQ : ∀ c a w, Q (.panic c) (a.put o.dst v) w → Q (.panic c) a w) (hg : o.guard = none) (hy : ∀ w, (execOp a.eval o).run P w = .ok (.value v) w)
    (h : pAny P ls.toArray Q f (listed.setIfInBounds i true) (a.put o.dst v) w) : pAny P ls.toArray Q (f + 1) listed a w :=
  wpAny_take (by rw [nth_eq]; exact ho) hs hf hr hQ (.inl ⟨by simp [Region.wanted, hg], hy⟩) h
theorem pw_ytake {ls : List Oper} {o : Oper} {v : Value} {j : Nat} {b : Bool} (i : Nat) (ho : nth ls i = some o) (hs : Region.noSelect ls.toArray = true) (hf : Region.free .any ls.toArray listed i = true) (hr : (Region.ready .any ls.toArray listed).contains i = true)
    (hQ : ∀ c a w, Q (.panic c) (a.put o.dst v) w → Q (.panic c) a w) (hg : o.guard = some (j, b)) (hj : yielded ls.toArray a.tmps j = some b) (hy : ∀ w, (execOp a.eval o).run P w = .ok (.value v) w)
    (h : pAny P ls.toArray Q f (listed.setIfInBounds i true) (a.put o.dst v) w) : pAny P ls.toArray Q (f + 1) listed a w :=
  wpAny_take (by rw [nth_eq]; exact ho) hs hf hr hQ (.inl ⟨by simp [Region.wanted, hg, hj], hy⟩) h
/-- An operation whose guard does not hold is passed over first. -/
theorem pw_skip {ls : List Oper} {o : Oper} {j : Nat} {b : Bool} (i : Nat) (ho : nth ls i = some o) (hs : Region.noSelect ls.toArray = true) (hf : Region.free .any ls.toArray listed i = true) (hr : (Region.ready .any ls.toArray listed).contains i = true)
    (hQ : ∀ c a w, Q (.panic c) (a.put o.dst undef) w → Q (.panic c) a w) (hg : o.guard = some (j, b)) (hy : yielded ls.toArray a.tmps j = some (!b))
    (h : pAny P ls.toArray Q f (listed.setIfInBounds i true) (a.put o.dst undef) w) : pAny P ls.toArray Q (f + 1) listed a w :=
  wpAny_take (by rw [nth_eq]; exact ho) hs hf hr hQ (.inr ⟨by simp only [Region.wanted, hg, hy]; cases b <;> rfl, rfl⟩) h
/-- What follows is proved once. -/
theorem once {A G : Prop} (h : Hid G → A) (g : G) : A := h (Lib.hid g)
end
end Go.Cz
