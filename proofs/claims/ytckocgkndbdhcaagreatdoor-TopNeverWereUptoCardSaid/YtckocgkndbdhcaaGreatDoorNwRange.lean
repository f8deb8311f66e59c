/-
  A range over a function whose iterator writes a variable that it captured: the law asks of what holds between two rounds that it abides a store into that variable's box.
-/
import Derived.Test.YtckocgkndbdhcaaGreatDoorNwPc
import Derived.Test.YtckocgkndbdhcaaGreatDoorBase
import Derived.Shelf.Abstract
import Derived.Shelf.RegionOpen
import Derived.WalkKit
import Derived.OwnWalkIn
import Derived.TacticsInMore
import Derived.LoopNIn
import Derived.LoopIn
import Derived.RangeFuncNested
import Derived.RangeFuncBound
import Derived.RangeFuncCalls
import Derived.RangeFuncLeaves
namespace Go.Cz
open Go.RowKit
/-- It abides a store into a box. -/
def Boxy {β : Type} (B : Nat) (J : β → World → Prop) : Prop := ∀ s W v, J s W → J s (W.setCell ⟨B, 0, none⟩ v)
/-- What an iterator promises that writes the box B; T says which elements may come next. -/
def SeqBox {α : Type} (F : Fence) (n : Nat) (P : Program) (g : Nat) (lb : Array Value) (encs : α → Array Value) (Kp : World → World → Prop) (S Sp : List α → Prop) (T : List α → α → Prop) (B : Nat) (w : World) : Prop :=
  ∀ (l : Nat) (J Jx : List α → World → Prop) (W : World), Below w.heap.size w W → AbidesFrom W.heap.size J → AbidesFrom W.heap.size Jx → Boxy B J → Boxy B Jx →
    (∀ pre x W1, J pre W1 → T pre x → YieldAt F (n - 1) P l (encs x) W1 fun e W' => (e = .returned (.bool true) ∧ J (pre ++ [x]) W' ∧ Kp W1 W') ∨ (e = .returned (.bool false) ∧ Jx (pre ++ [x]) W')) →
    J [] W → CallsIn F n P g (#[.func (.yield l) #[] #[]] ++ lb) W fun e W' => (∃ v, e = .returned v) ∧ ((∃ xs, S xs ∧ J xs W') ∨ (∃ pre, Sp pre ∧ Jx pre W'))
/-- How a round ends: it goes on, or it breaks off. -/
def boxPost {α : Type} (B : Nat) (Kp : World → World → Prop) (I Ix : List α → World → Prop) (b : Nat) (xs : List α) (W : World) : Exit → Act → World → Prop
  | .normal, _, W' => KeepsFrom B W W' ∧ Kp W W' ∧ I xs W'
  | .exit id, _, W' => id = b ∧ KeepsFrom B W W' ∧ Ix xs W'
  | _, _, _ => False
theorem wpIn_rangeFunc_box {F : Fence} {n : Nat} {P : Program} {w : World} {α : Type} {g : Operand} {ps : Array Tmp} {assign body : Code} {Q : Exit → Act → World → Prop} {a : Act}
    (hro : F.round = none) (h1 : 1 ≤ n) {gf : Nat} {lb : Array Value} (hg : a.eval g = .func (.func gf) #[] lb) (hFg : F.fn gf) (eg : ∀ args w, (callFunc gf args).run P w = .ok (.enter gf args) w)
    {encs : α → Array Value} {Kp : World → World → Prop} {S Sp : List α → Prop} {T : List α → α → Prop} {B : Nat} {w0 : World} (hseq : SeqBox F (n - 1) P gf lb encs Kp S Sp T B w0) (hB : B < w.heap.size)
    (hKt : ∀ {X Y Z : World}, Kp X Y → Kp Y Z → Kp X Z) (hKb : ∀ (W : World) (l : Nat) (o o' : Obj), w.heap.size ≤ l → W.heap[l]? = some o → o.isCells = false → o.isWalk = false → Kp W (W.putObj l o')) (hb0 : Below w0.heap.size w0 w) (hps : ∀ x, (encs x).size = ps.size)
    (I Ix : List α → World → Prop) (brk : Nat) (hI : OwnFrom w.heap.size I) (hIx : OwnFrom w.heap.size Ix) (hIb : Boxy B I) (hIxb : Boxy B Ix) (h0 : I [] w) (a₁ : α → Act)
    (hassign : ∀ (l : Nat) (x : α) (W : World) (K : Act → World → Prop), K (a₁ x) W → assign.wpIn (F.inRound l) (n - 1 - 1) P (Exit.then K (fun _ _ _ => False)) { tmps := (ps.zip (encs x)).foldl (fun t (p, v) => t.setIfInBounds p v) a.tmps, defers := [] } W)
    (hbody : ∀ (l : Nat) (pre : List α) (x : α) (W : World), I pre W → T pre x → body.wpIn (F.inRound l) (n - 1 - 1) P (boxPost w.heap.size Kp I Ix brk (pre ++ [x]) W) (a₁ x) W)
    (hdone : ∀ (D : Nat) (xs : List α) (W : World), w.heap.size ≤ D → S xs → I xs W → W.heap[D]? = some (.deferred (some [])) → Q .normal { a with defers := { target := .collected D, args := #[] } :: a.defers } W)
    (hstop : ∀ (D : Nat) (pre : List α) (W : World), w.heap.size ≤ D → Sp pre → Ix pre W → W.heap[D]? = some (.deferred (some [])) → (Code.exit brk).wpIn F n P Q { a with defers := { target := .collected D, args := #[] } :: a.defers } W) :
    (Code.rangeFunc g ps assign body).wpIn F n P Q a w := by
  obtain ⟨D, hD⟩ : ∃ D, D = w.heap.size := ⟨_, rfl⟩
  refine wpIn_rangeFunc fun fn hfn => ?_
  rw [hro]
  let rc : LoopState → Option Code → Loop := fun st pe => { state := st, pending := pe, fn, tmps := a.tmps, params := ps, assign, body, defers := D }
  obtain ⟨W1, hW1⟩ : ∃ W1, (w.alloc (.deferred (some []))).alloc (.loop (rc .ready none)) = W1 := ⟨_, rfl⟩
  have atL : W1.heap[D + 1]? = some (.loop (rc .ready none)) := by
    have h := World.alloc_heap_new (w.alloc (.deferred (some []))) (.loop (rc .ready none))
    rw [World.size_alloc, ← hD, hW1] at h
    exact h
  have atD : W1.heap[D]? = some (.deferred (some [])) := by
    rw [← hW1, hD]
    exact (Below.heap_alloc _ _ _ (by simp)).trans (World.alloc_heap_new w _)
  have i1 : I [] W1 := by rw [← hW1]; exact hI.alloc _ (hI.alloc _ h0)
  have b1 : Below w0.heap.size w0 W1 := by
    rw [← hW1]
    exact hb0.trans ((((Below.refl _ w).alloc (Nat.le_refl _) _).alloc (by simp) _).mono hb0.size)
  have s1 : W1.heap.size = D + 2 := by rw [← hW1, hD]; simp
  refine ⟨D + 1, [{ target := .collected D, args := #[] }], W1, { target := .fn (.func gf) lb, args := #[.func (.yield (D + 1)) #[] #[]] }, W1, gf, #[.func (.yield (D + 1)) #[] #[]] ++ lb, W1, ?_, ?_, ?_, ?_, fun _ => h1, ?_⟩
  · have h := run_enterLoop_outer (P := P) (w := w) fn a.tmps ps assign body
    rw [← hD] at h
    rw [← hW1]
    exact h
  · simp only [resolve, hg]
    simp [go_sem]
  · intro f' hf'
    simp [Target.leads] at hf'
    subst hf'
    exact hFg
  · simp [invoke, go_sem, eg]
  have walk : ∀ {X : World} {row : Option Nat}, (∀ r, row = some r → W1.heap.size ≤ r ∧ ∃ o : Obj, X.heap[r]? = some o ∧ o.isWalk = true) → ∀ r, row = some r → w.heap.size ≤ r ∧ ∃ o : Obj, X.heap[r]? = some o ∧ o.isCells = false := fun hr r e => by
    obtain ⟨h2, o, ho, hw⟩ := hr r e
    exact ⟨by omega, o, ho, Obj.not_cells_of_walk hw⟩
  have hBD : B ≠ D ∧ B ≠ D + 1 := by omega
  refine (hseq (D + 1) (fun pre W => I pre W ∧ W.heap[D + 1]? = some (.loop (rc .ready none)) ∧ W.heap[D]? = some (.deferred (some [])))
    (fun pre W => Ix pre W ∧ W.heap[D + 1]? = some (.loop (rc .done (some (.exit brk)))) ∧ W.heap[D]? = some (.deferred (some []))) W1 b1 ?_ ?_ ?_ ?_ ?_ ⟨i1, atL, atD⟩).mono ?_
  · rintro s X Y row ⟨h2, h3, h4⟩ hg' hr
    exact ⟨hI s X Y row h2 hg' (walk hr), (grownBy_keeps hg' (fun r e => (hr r e).2) h3 rfl).trans h3, (grownBy_keeps hg' (fun r e => (hr r e).2) h4 rfl).trans h4⟩
  · rintro s X Y row ⟨h2, h3, h4⟩ hg' hr
    exact ⟨hIx s X Y row h2 hg' (walk hr), (grownBy_keeps hg' (fun r e => (hr r e).2) h3 rfl).trans h3, (grownBy_keeps hg' (fun r e => (hr r e).2) h4 rfl).trans h4⟩
  · rintro s X v ⟨h2, h3, h4⟩
    exact ⟨hIb s X v h2, (setCell_heap_ne (by exact hBD.2.symm) v).trans h3, (setCell_heap_ne (by exact hBD.1.symm) v).trans h4⟩
  · rintro s X v ⟨h2, h3, h4⟩
    exact ⟨hIxb s X v h2, (setCell_heap_ne (by exact hBD.2.symm) v).trans h3, (setCell_heap_ne (by exact hBD.1.symm) v).trans h4⟩
  · -- a round
    rintro pre x W ⟨hi, hl, hk⟩ hlen
    have hlt : D + 1 < W.heap.size := (Array.getElem?_eq_some_iff.1 hl).1
    refine ⟨fn, _, assign, body, run_yield (P := P) (args := encs x) hl (hps x), roundIn_of_wpIn hfn (hassign _ x W _ ?_)⟩
    refine ⟨_, run_beginRound hl rfl, ?_⟩
    obtain ⟨Wb, hWb⟩ : ∃ Wb, Wb = W.putObj (D + 1) (.loop { rc .ready none with state := .busy }) := ⟨_, rfl⟩
    have bl : Wb.heap[D + 1]? = some (.loop { rc .ready none with state := .busy }) := by rw [hWb]; exact World.putObj_heap_same hlt
    have bd : Wb.heap[D]? = some (.deferred (some [])) := by rw [hWb]; exact (World.putObj_heap_other (by omega)).trans hk
    have bk : Kp W Wb := by rw [hWb]; exact hKb _ _ _ _ (by omega) hl rfl rfl
    have bi : I pre Wb := by rw [hWb]; exact hI.putObj _ hi (by omega) hl rfl
    show Code.wpIn _ _ _ _ _ _ (W.putObj (D + 1) (.loop { rc .ready none with state := .busy }))
    rw [← hWb]
    refine wpIn_mono (hbody _ pre x _ bi hlen) ?_
    have fin : ∀ (jump : Option Code) (W3 : World), KeepsFrom w.heap.size Wb W3 → W3.heap[D + 1]? = some (.loop { rc .ready none with state := .busy }) ∧ (Instr.endRound (D + 1) jump).run P W3 = .ok (.bool jump.isNone) (W3.putObj (D + 1) (.loop (rc (if jump.isNone then .ready else .done) jump))) ∧
        (W3.putObj (D + 1) (.loop (rc (if jump.isNone then .ready else .done) jump))).heap[D + 1]? = some (.loop (rc (if jump.isNone then .ready else .done) jump)) ∧
        (W3.putObj (D + 1) (.loop (rc (if jump.isNone then .ready else .done) jump))).heap[D]? = some (.deferred (some [])) := fun jump W3 h3 => by
      have c1 := h3.same _ _ (by omega) bl rfl
      have c2 := h3.same _ _ (by omega) bd rfl
      exact ⟨c1, run_endRound (P := P) jump c1, World.putObj_heap_same (Array.getElem?_eq_some_iff.1 c1).1, (World.putObj_heap_other (by omega)).trans c2⟩
    rintro e a3 W3 hp
    cases e with
    | normal =>
      obtain ⟨p1, p2, p3⟩ := hp
      obtain ⟨c1, c2, c3, c4⟩ := fin none W3 p1
      exact ⟨_, _, c2, .inl ⟨rfl, ⟨hI.putObj _ p3 (by omega) c1 rfl, c3, c4⟩, hKt (hKt bk p2) (hKb _ _ _ _ (by omega) c1 rfl rfl)⟩⟩
    | exit id =>
      obtain ⟨rfl, p1, p3⟩ := hp
      obtain ⟨c1, c2, c3, c4⟩ := fin (some (.exit id)) W3 p1
      exact ⟨_, _, c2, .inr ⟨rfl, hIx.putObj _ p3 (by omega) c1 rfl, c3, c4⟩⟩
    | ret => exact hp.elim
    | goto t => exact hp.elim
    | panic ch => exact hp.elim
    | outgrown => exact hp.elim
  · -- behind the iterator
    rintro e W2 ⟨⟨v, rfl⟩, (⟨xs, hS, hi, hl, hk⟩ | ⟨pre, hSp, hi, hl, hk⟩)⟩
    · exact ⟨none, _, run_endLoop (P := P) hl (by simp [rc]), hdone _ xs _ (by omega) hS (hI.putObj _ hi (by omega) hl rfl) ((World.putObj_heap_other (by omega)).trans hk)⟩
    · exact ⟨some (.exit brk), _, run_endLoop (P := P) hl (by simp [rc]), hstop _ pre _ (by omega) hSp (hIx.putObj _ hi (by omega) hl rfl) ((World.putObj_heap_other (by omega)).trans hk)⟩
end Go.Cz
namespace Go.Proofs.YtckocgkndbdhcaaGreatDoor
open Go.RowKit Go.Cz Go.Shelf
set_option linter.unusedVariables false
section
variable {W W' : World} {B : Nat} {cs : Array Value} {t : TypeId}
theorem Bk.grown (h : Bk W B cs t) {row : Option Nat} (hg : W.grownBy W' row) (hr : ∀ r, row = some r → ∃ o : Obj, W.heap[r]? = some o ∧ o.isCells = false) : Bk W' B cs t := by
  refine (hg.block B h.lt fun e => ?_).trans h
  obtain ⟨o, ho, hc⟩ := hr B e.symm
  unfold Bk at h
  rw [h] at ho
  cases ho
  cases hc
end
/-- What a round keeps: what is old, and the box with the account's address. -/
def Kz (w0 : World) (Bz : Nat) (W W' : World) : Prop := Below w0.heap.size W W' ∧ W'.heap[Bz]? = W.heap[Bz]?
theorem Kz.refl (w0 : World) (Bz : Nat) (W : World) : Kz w0 Bz W W := ⟨Below.refl _ _, rfl⟩
theorem Kz.trans {w0 : World} {Bz : Nat} {a b c : World} (h : Kz w0 Bz a b) (k : Kz w0 Bz b c) : Kz w0 Bz a c := ⟨h.1.trans k.1, k.2.trans h.2⟩
theorem Kz.alloc {w0 : World} {Bz : Nat} {a b : World} (h : Kz w0 Bz a b) (hb : w0.heap.size ≤ b.heap.size) (hz : Bz < b.heap.size) (o : Obj) : Kz w0 Bz a (b.alloc o) :=
  h.trans ⟨(Below.refl _ b).alloc hb o, Below.heap_alloc b o Bz hz⟩
theorem Kz.turn {w0 w : World} {Bz : Nat} (hb : w0.heap.size ≤ w.heap.size) (hz : Bz < w.heap.size) (W : World) (l : Nat) (o o' : Obj) (hl : w.heap.size ≤ l) (h : W.heap[l]? = some o) (_ : o.isCells = false) (_ : o.isWalk = false) : Kz w0 Bz W (W.putObj l o') :=
  ⟨belowK_b hb W l o o' hl h ‹_› ‹_›, World.putObj_heap_other (by omega)⟩
/-- A function that holds a range over a function, entered; the calls in it are plain ones. -/
theorem calls_marks {P : Program} {f : FuncId} {fn : Func} {c : Code} {args : Array Value} {w : World} {R : Ending → World → Prop} (n : Nat) (hf : P.funcs[f]? = some fn) (hb : fn.body = some c)
    (h : c.wp P (bodyPostM Fence.wide n P fn R) { tmps := args ++ Array.replicate (fn.ntmps - args.size) undef, defers := [] } w) : Calls P f args w R :=
  (callsIn_wide (n := n)).1 (callsIn_of_wp_marks (F := Fence.wide) hf hb trivial (wpIn_wide.2 h) rfl)
theorem grown_below {w w' : World} (h : Below w.heap.size w w') : w.grownBy w' none := ⟨h.os, h.tape, h.output, h.size, fun k hk _ => h.block k hk⟩
end Go.Proofs.YtckocgkndbdhcaaGreatDoor
