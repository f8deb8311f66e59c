/-
  A region whose order of evaluation is open, within a round of a range over a function: it is walked as elsewhere.
-/
import Derived.Test.YtckocgkndbdhcaaGreatDoorAnyOrd
import Derived.Test.YtckocgkndbdhcaaGreatDoorNwRange
import Derived.OrdersIn
namespace Go.Cz
open Go.RowKit
section
variable {P : Program} {lp n : Nat}
/-- No operation is deferred. -/
def noDefer (l : Array Oper) : Bool := l.all fun o => match o.op with
  | .defer _ => false
  | _ => true
theorem wpIn_of_wp {o : Oper} {a : Act} {w : World} {K : Act → World → Prop} {Q : Exit → Act → World → Prop} (hd : ∀ c, o.op ≠ .defer c) (h : o.wp P a w K QF) : o.wpIn (Fence.wide.inRound lp) n P a w K Q := by
  unfold Oper.wp at h
  unfold Oper.wpIn
  refine ⟨fun f _ => trivial, ?_⟩
  rw [show (Fence.wide.inRound lp).round = some lp from rfl, Oper.semAt_some lp a.eval o hd]
  generalize (execOp a.eval o).run P w = r at h ⊢
  rcases r with ⟨x, w'⟩ | ⟨x, w'⟩
  · cases x with
    | value v => exact h
    | skip => exact h
    | defer d => exact h
    | enter f args =>
      refine ⟨fun hx => (by cases hx), CallsIn.inRound lp ((callsIn_wide (n := n - 1)).2 (Calls.mono h ?_))⟩
      intro e w'' he
      cases e with
      | returned v => exact he
      | panicked c => exact he.elim
      | outgrown => exact (not_letsOut_QF he).elim
    | row r args =>
      refine ⟨fun hx => (by cases hx), fun c cs _ => ?_⟩
      obtain ⟨v, w'', h1, h2⟩ := h c cs
      exact ⟨v, w'', h1, stepsIn_wide.2 h2⟩
    | round l f tmps assign body => exact h.elim
    | _ => exact h.elim
  · cases x with
    | panic v => exact h.elim
    | _ => exact h.elim
theorem wpOpIn_of_cOp {l : Array Oper} {fl : Nat → Bool} {i : Nat} {K : Act → World → Prop} {Q : Exit → Act → World → Prop} {a : Act} {w : World} (hd : noDefer l = true) (h : cOp P l fl i K a w) : wpOpIn (Fence.wide.inRound lp) n P l Q i K a w := by
  unfold cOp at h
  unfold wpOpIn
  split
  · rename_i ho
    simpa [ho] using h
  · rename_i o ho
    simp only [ho] at h
    split
    · rename_i hw
      simp only [hw, if_true] at h
      refine Oper.wpIn_mono (fun a w hh => hh.2) (wpIn_of_wp (fun c hc => ?_) h.2)
      unfold noDefer at hd
      rw [Array.all_eq_true] at hd
      obtain ⟨hi, rfl⟩ := Array.getElem?_eq_some_iff.1 ho
      have := hd i hi
      rw [hc] at this
      cases this
    · rename_i hw
      simp only [hw] at h
      exact ⟨fun f _ => trivial, by simpa using h⟩
theorem wpAnyIn_of_cAny {md : Region.Mode} {l : Array Oper} {fl : Nat → Bool} {Q : Act → World → Prop} {Q' : Exit → Act → World → Prop} (hd : noDefer l = true) (hQ : ∀ a w, Q a w → Q' .normal a w) :
    ∀ (f : Nat) (listed : Array Bool) (a : Act) (w : World), cAny P md l fl Q f listed a w → wpAnyIn (Fence.wide.inRound lp) n P md l Q' f listed a w
  | 0, _, _, _, h => ⟨h.1, hQ _ _ h.2⟩
  | f + 1, _, _, _, h => ⟨fun h0 => hQ _ _ (h.1 h0), fun i hi => wpOpIn_mono (fun a w => wpAnyIn_of_cAny hd hQ f _ a w) (wpOpIn_of_cOp hd (h.2 i hi))⟩
theorem wpIn_region_walk {l : Array Oper} {id : Nat} {Q : Exit → Act → World → Prop} {a : Act} {w : World} (fl : List Nat) (m : Nat) (hn : l.size = m) (hm : P.follows .mixedOrders = true) (hd : noDefer l = true)
    (h : cWalk P l (fun i => fl.contains i) (fun a w => Q .normal a w) m (Array.replicate m false) a w.drew) : (Code.region id l true).wpIn (Fence.wide.inRound lp) n P Q a w := by
  subst hn
  refine wpIn_region_any hm ?_
  have hs : Shut .any l (Array.replicate l.size false) := fun k o _ hl => by
    exfalso
    rcases Nat.lt_or_ge k l.size with h | h
    · simp [h] at hl
    · simp [h] at hl
  exact wpAnyIn_of_cAny hd (fun _ _ h => h) _ _ _ _ (h hs)
end
end Go.Cz
