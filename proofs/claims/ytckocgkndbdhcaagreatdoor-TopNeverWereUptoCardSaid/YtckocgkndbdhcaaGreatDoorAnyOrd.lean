/-
  A region whose order of evaluation is open, walked operation by operation: where an operation may not change places with all others, every operation that is ready comes next, one way each.
-/
import Derived.Test.YtckocgkndbdhcaaGreatDoorBase
namespace Go.Cz
open Go.RowKit
section
variable {P : Program} {fl : Nat → Bool} {Q : Act → World → Prop} {f : Nat} {listed : Array Bool} {a : Act} {w : World}
/-- The operations that are left, in any order. -/
def cWalk (P : Program) (l : Array Oper) (fl : Nat → Bool) (Q : Act → World → Prop) (f : Nat) (listed : Array Bool) (a : Act) (w : World) : Prop := Shut .any l listed → cAny P .any l fl Q f listed a w
theorem wp_region_walk {l : Array Oper} {id : Nat} {Q : Exit → Act → World → Prop} (fl : List Nat) (n : Nat) (hn : l.size = n) (hm : P.follows .mixedOrders = true)
    (h : cWalk P l (fun i => fl.contains i) (fun a w => Q .normal a w) n (Array.replicate n false) a w.drew) : (Code.region id l true).wp P Q a w := by
  subst hn
  refine wp_region_any hm ?_
  have hs : Shut .any l (Array.replicate l.size false) := fun k o _ hl => by
    exfalso
    rcases Nat.lt_or_ge k l.size with h | h
    · simp [h] at hl
    · simp [h] at hl
  exact wpAny_of_cAny (fun _ _ h => h) _ _ _ _ (h hs)
theorem cw_step {l : Array Oper} (i : Nat) (hn : Region.noSelect l = true) (hr : (Region.ready .any l listed).contains i = true) (hf : frB P l fl (masks .any l.toList #[]) listed i = true)
    (h : cOp P l fl i (cWalk P l fl Q f (listed.setIfInBounds i true)) a w) : cWalk P l fl Q (f + 1) listed a w := fun hs => by
  have hms : ∀ i k, ((masks .any l.toList #[]).getD k 0).testBit i = true → Waits .any l i k := fun i => masks_spec l.toList #[] (fun k => by simp) (fun k hk => by simp at hk)
  have hr' : i ∈ Region.ready .any l listed := by simpa using hr
  exact cAny_first hn f listed a w hs (frB_spec hms hf) hr' (cOp_mono (fun a w hh => hh (hs.set hr')) h)
theorem cw_all {l : Array Oper} {rs : List Nat} (hr : Region.ready .any l listed = rs) (hne : rs ≠ [])
    (h : ∀ i ∈ rs, cOp P l fl i (cWalk P l fl Q f (listed.setIfInBounds i true)) a w) : cWalk P l fl Q (f + 1) listed a w := fun hs => by
  subst hr
  exact ⟨fun h0 => absurd h0 hne, fun i hi => cOp_mono (fun a w hh => hh (hs.set hi)) (h i hi)⟩
theorem cw_two {l : Array Oper} (i j : Nat) (hr : Region.ready .any l listed = [i, j])
    (h1 : cOp P l fl i (cWalk P l fl Q f (listed.setIfInBounds i true)) a w) (h2 : cOp P l fl j (cWalk P l fl Q f (listed.setIfInBounds j true)) a w) : cWalk P l fl Q (f + 1) listed a w :=
  cw_all hr (by simp) fun k hk => by
    simp only [List.mem_cons, List.not_mem_nil, or_false] at hk
    rcases hk with rfl | rfl
    · exact h1
    · exact h2
theorem cw_three {l : Array Oper} (i j m : Nat) (hr : Region.ready .any l listed = [i, j, m])
    (h1 : cOp P l fl i (cWalk P l fl Q f (listed.setIfInBounds i true)) a w) (h2 : cOp P l fl j (cWalk P l fl Q f (listed.setIfInBounds j true)) a w) (h3 : cOp P l fl m (cWalk P l fl Q f (listed.setIfInBounds m true)) a w) : cWalk P l fl Q (f + 1) listed a w :=
  cw_all hr (by simp) fun k hk => by
    simp only [List.mem_cons, List.not_mem_nil, or_false] at hk
    rcases hk with rfl | rfl | rfl
    · exact h1
    · exact h2
    · exact h3
theorem cw_nil {l : Array Oper} (hr : Region.ready .any l listed = []) (h : Q a w) : cWalk P l fl Q 0 listed a w := fun _ => ⟨hr, h⟩
end
section
variable {P : Program} {ls : List Oper} {fl : Nat → Bool} {Q : Act → World → Prop} {f : Nat} {listed : Array Bool} {a : Act} {w : World} {i : Nat} {o : Oper}
theorem cw_do (ho : nth ls i = some o) (hg : o.guard = none) (hf : fl i = false) (hk : okB o a.eval = true)
    (h : ∀ K : Act → World → Prop, (∀ a w, cWalk P ls.toArray fl Q f listed a w → K a w) → o.wp P a w K QF) : cOp P ls.toArray fl i (cWalk P ls.toArray fl Q f listed) a w := by
  unfold cOp
  simp only [nth_eq, ho, Region.wanted, hg, if_true]
  exact ⟨hk, h _ fun a' w' hh => ⟨(fun hx => by rw [hf] at hx; cases hx), hh⟩⟩
end
/-- What follows is proved once, for whatever two blocks were made. -/
theorem cut2 {Goal : Prop} {Hyp G : Nat → Nat → World → Prop} (h1 : (∀ b c W, Hyp b c W → G b c W) → Goal) (h2 : ∀ b c W, Hyp b c W → G b c W) : Goal := h1 h2
end Go.Cz
