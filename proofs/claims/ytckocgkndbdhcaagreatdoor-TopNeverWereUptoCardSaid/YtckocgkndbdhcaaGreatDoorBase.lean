/-
  Regions whose order of evaluation is open: a region walked in ONE order, if its operations may change places. And which operations read, write or make memory.
  Nothing is claimed here; the claims of this seat use it.
  A guarded operation whose guard holds, in a region that is walked in one order.
  A guarded call whose guard holds, in a region that is walked in one order.
  A region whose order of evaluation is open, walked in a few orders: where two operations may not change places, both come first, one way each.
  Memory for the claims of this seat: what a call may have changed (Mod), texts as lists of bytes (bs), and laws for append, copy and conversion at an operation.
  A block that is known whole.
  Memory in pieces: what a call has made for itself, piece by piece, each in blocks of its own.
  A row that a call makes for itself by append.
  append(s, x...) of a part of a row that lies anywhere.
-/
import Derived.Orders
import Derived.Below
import Derived.Tactics2
import Derived.WalkKit
import Derived.WalkSpells
import Derived.WalkLawsBesides
import Derived.Lib.Hide
import Derived.Maps.AppendAt
import Derived.Laws.CopyOwn
import Derived.Lib.SlBytesRow
namespace Go.Cz
open Go.RowKit

/-! ### What a run that succeeds needs of the world -/
section
variable {P : Program} {α β : Type}

/-- A run that succeeds leaves the world, and succeeds with the same value in every world. -/
def PuS (P : Program) (e : Sem α) : Prop := ∀ w a w1, e.run P w = .ok a w1 → w1 = w ∧ ∀ w', e.run P w' = .ok a w'
/-- A run that succeeds leaves the world, and succeeds with the same value in every world that is the same below this one's size. -/
def StS (P : Program) (e : Sem α) : Prop := ∀ w a w1, e.run P w = .ok a w1 → w1 = w ∧ ∀ w', Below w.heap.size w w' → e.run P w' = .ok a w'
/-- No run succeeds. -/
def NoS (P : Program) (e : Sem α) : Prop := ∀ w a w1, e.run P w ≠ .ok a w1
/-- A run that succeeds keeps what is below the size of the world in which it began. -/
def ExS (P : Program) (e : Sem α) : Prop := ∀ w a w1, e.run P w = .ok a w1 → Below w.heap.size w w1

theorem PuS.st {e : Sem α} (h : PuS P e) : StS P e := fun w a w1 hr => ⟨(h w a w1 hr).1, fun w' _ => (h w a w1 hr).2 w'⟩
theorem NoS.pu {e : Sem α} (h : NoS P e) : PuS P e := fun w a w1 hr => absurd hr (h w a w1)
theorem StS.ex {e : Sem α} (h : StS P e) : ExS P e := fun w a w1 hr => by rw [(h w a w1 hr).1]; exact Below.refl _ _

theorem run_bind_ok {e : Sem α} {f : α → Sem β} {w w1 : World} {b : β} (h : (e.bind f).run P w = .ok b w1) : ∃ a w2, e.run P w = .ok a w2 ∧ (f a).run P w2 = .ok b w1 := by
  rw [show e.bind f = (e >>= f) from rfl, Sem.run_bind] at h
  cases hr : e.run P w with
  | ok a w2 => rw [hr] at h; exact ⟨a, w2, rfl, h⟩
  | halt x w2 => rw [hr] at h; cases h
theorem run_bind_of {e : Sem α} {f : α → Sem β} {w w2 : World} {a : α} (h : e.run P w = .ok a w2) : (e.bind f).run P w = (f a).run P w2 := by
  rw [show e.bind f = (e >>= f) from rfl, Sem.run_bind, h]; rfl

theorem pu_pure (a : α) : PuS P (Sem.pure a) := fun w b w1 h => by
  simp only [Sem.run, Result.ok.injEq] at h
  obtain ⟨rfl, rfl⟩ := h
  exact ⟨rfl, fun w' => by simp [Sem.run]⟩
theorem pu_bind {e : Sem α} {f : α → Sem β} (h : PuS P e) (hf : ∀ a, PuS P (f a)) : PuS P (e.bind f) := fun w b w1 hr => by
  obtain ⟨a, w2, h1, h2⟩ := run_bind_ok hr
  obtain ⟨rfl, h3⟩ := h w a w2 h1
  obtain ⟨rfl, h4⟩ := hf a w2 b w1 h2
  exact ⟨rfl, fun w' => by rw [run_bind_of (h3 w')]; exact h4 w'⟩
theorem st_bind {e : Sem α} {f : α → Sem β} (h : StS P e) (hf : ∀ a, StS P (f a)) : StS P (e.bind f) := fun w b w1 hr => by
  obtain ⟨a, w2, h1, h2⟩ := run_bind_ok hr
  obtain ⟨rfl, h3⟩ := h w a w2 h1
  obtain ⟨rfl, h4⟩ := hf a w2 b w1 h2
  exact ⟨rfl, fun w' hb => by rw [run_bind_of (h3 w' hb)]; exact h4 w' hb⟩
theorem ex_bind {e : Sem α} {f : α → Sem β} (h : ExS P e) (hf : ∀ a, ExS P (f a)) : ExS P (e.bind f) := fun w b w1 hr => by
  obtain ⟨a, w2, h1, h2⟩ := run_bind_ok hr
  have h3 := h w a w2 h1
  exact h3.trans ((hf a w2 b w1 h2).mono h3.size)
theorem no_bind_right {e : Sem α} {f : α → Sem β} (hf : ∀ a, NoS P (f a)) : NoS P (e.bind f) := fun w b w1 hr => by
  obtain ⟨a, w2, _, h2⟩ := run_bind_ok hr
  exact hf a w2 b w1 h2
theorem no_halt (h : Halt) : NoS P (Sem.halt h : Sem α) := fun w a w1 hr => by simp [Sem.run] at hr
theorem pu_program {k : Program → Sem α} (h : PuS P (k P)) : PuS P (Sem.program k) := fun w a w1 hr => by
  simp only [Sem.run] at hr ⊢
  exact h w a w1 hr
theorem st_program {k : Program → Sem α} (h : StS P (k P)) : StS P (Sem.program k) := fun w a w1 hr => by
  simp only [Sem.run] at hr ⊢
  exact h w a w1 hr
theorem ex_program {k : Program → Sem α} (h : ExS P (k P)) : ExS P (Sem.program k) := fun w a w1 hr => by
  simp only [Sem.run] at hr ⊢
  exact h w a w1 hr
theorem no_program {k : Program → Sem α} (h : NoS P (k P)) : NoS P (Sem.program k) := fun w a w1 hr => by
  simp only [Sem.run] at hr ⊢
  exact h w a w1 hr
theorem pu_mark {m : Mark} {k : Sem α} (h : PuS P k) : PuS P (Sem.mark m k) := fun w a w1 hr => by
  simp only [Sem.run] at hr ⊢
  exact h w a w1 hr
theorem ex_mark {m : Mark} {k : Sem α} (h : ExS P k) : ExS P (Sem.mark m k) := fun w a w1 hr => by
  simp only [Sem.run] at hr ⊢
  exact h w a w1 hr
theorem ex_new {o : Obj} {k : Nat → Sem α} (h : ∀ n, ExS P (k n)) : ExS P (Sem.new o k) := fun w a w1 hr => by
  simp only [Sem.run] at hr
  have h1 := h _ _ _ _ hr
  exact ((Below.refl w.heap.size w).alloc (Nat.le_refl _) o).trans (h1.mono (by simp))
theorem ex_choose {q : Question} {k : Nat → Sem α} (h : ∀ n, ExS P (k n)) : ExS P (Sem.choose q k) := fun w a w1 hr => by
  simp only [Sem.run] at hr
  split at hr
  · exact h _ _ _ _ hr
  · have h1 := h _ _ _ _ hr
    exact ⟨h1.os, h1.tape, h1.output, h1.size, h1.block⟩

theorem Below.cell_some {w w' : World} (hb : Below w.heap.size w w') {p : Addr} {v : Value} (h : w.cell? p = some v) : w'.cell? p = some v := by
  rw [hb.cell (World.block_lt_of_cell? w p h), h]

theorem seen_same {w w' : World} {at_ : Addr} (h : w'.heap[at_.block]? = w.heap[at_.block]?) (u : TypeId) (k : Addr) (b : Bool) : w'.seen P at_ u k b = w.seen P at_ u k b := by
  unfold World.seen
  rw [h]

theorem heap_none_of_ge {w : World} {k : Nat} (h : ¬ k < w.heap.size) : w.heap[k]? = none := Array.getElem?_eq_none (Nat.le_of_not_lt h)

theorem seen_none {w : World} {at_ : Addr} (hn : w.heap[at_.block]? = none) (u : TypeId) (k : Addr) (b : Bool) : ∃ e, w.seen P at_ u k b = .error e := by
  unfold World.seen
  rw [hn]
  simp only [bind, Except.bind]
  repeat' split
  all_goals first | exact ⟨_, rfl⟩ | skip

theorem viewLoad_same {w w' : World} (hb : Below w.heap.size w w') {at_ : Addr} {u : TypeId} {p : Addr} {b : Bool} {r : Value × List Addr} (h : w.viewLoad P at_ u p b = .ok r) : w'.viewLoad P at_ u p b = .ok r := by
  by_cases hl2 : at_.block < w.heap.size
  · have hs := seen_same (P := P) (hb.block at_.block hl2) u p b
    unfold World.viewLoad at h ⊢
    rw [hs]
    exact h
  · obtain ⟨e, he⟩ := seen_none (P := P) (heap_none_of_ge hl2) u p b
    unfold World.viewLoad at h
    rw [he] at h
    simp [bind, Except.bind] at h

theorem farLoad_same {w w' : World} (hb : Below w.heap.size w w') {p : Addr} {b : Bool} {r : Value × List Addr} (h : w.farLoad P p b = .ok r) : w'.farLoad P p b = .ok r := by
  by_cases hlt : p.block < w.heap.size
  · have he := hb.block p.block hlt
    unfold World.farLoad at h ⊢
    rw [he]
    cases hh : w.heap[p.block]? with
    | none => rw [hh] at h; simp at h
    | some o =>
      rw [hh] at h
      cases o with
      | view at_ u =>
        simp only at h ⊢
        cases hv : w.viewLoad P at_ u p b with
        | ok x => rw [hv] at h; rw [viewLoad_same hb hv]; exact h
        | error e => rw [hv] at h; simp at h
      | _ => simp at h
  · unfold World.farLoad at h
    rw [heap_none_of_ge hlt] at h
    simp at h

theorem st_load {m : Mode} {p : Addr} {k : Value → Sem α} (h : ∀ v, StS P (k v)) : StS P (Sem.load m p k) := fun w a w1 hr => by
  simp only [Sem.run] at hr
  split at hr
  · rename_i v hv
    obtain ⟨rfl, h1⟩ := h v _ _ _ hr
    refine ⟨rfl, fun w' hb => ?_⟩
    simp only [Sem.run, Below.cell_some hb hv]
    exact h1 w' hb
  · rename_i hn
    split at hr
    · rename_i v l hf
      obtain ⟨rfl, h1⟩ := h v _ _ _ hr
      refine ⟨rfl, fun w' hb => ?_⟩
      have hf' := farLoad_same hb hf
      have hn' : w'.cell? p = none := by
        by_cases hlt : p.block < w1.heap.size
        · rw [hb.cell hlt, hn]
        · exfalso
          unfold World.farLoad at hf
          rw [heap_none_of_ge hlt] at hf
          simp at hf
      simp only [Sem.run, hn', hf']
      exact h1 w' hb
    · cases hr

theorem st_getObj {r : Nat} {k : Obj → Sem α} (h : ∀ v, StS P (k v)) : StS P (Sem.getObj r k) := fun w a w1 hr => by
  simp only [Sem.run] at hr
  have hlt : r < w.heap.size := by
    by_cases hlt : r < w.heap.size
    · exact hlt
    · rw [heap_none_of_ge hlt] at hr; simp at hr
  split at hr
  · cases hr
  · rename_i o hno ho
    obtain ⟨rfl, h1⟩ := h o _ _ _ hr
    refine ⟨rfl, fun w' hb => ?_⟩
    have he := hb.block r hlt
    simp only [Sem.run, he, ho]
    cases o <;> first | exact h1 w' hb | exact (hno _ _ _ rfl).elim
  · cases hr

/-! ### The operations, by kind -/

theorem pu_pure' (a : α) : PuS P (pure a : Sem α) := pu_pure a
theorem pu_bind' {e : Sem α} {f : α → Sem β} (h : PuS P e) (hf : ∀ a, PuS P (f a)) : PuS P (e >>= f) := pu_bind h hf
theorem st_bind' {e : Sem α} {f : α → Sem β} (h : StS P e) (hf : ∀ a, StS P (f a)) : StS P (e >>= f) := st_bind h hf
theorem ex_bind' {e : Sem α} {f : α → Sem β} (h : ExS P e) (hf : ∀ a, ExS P (f a)) : ExS P (e >>= f) := ex_bind h hf
theorem no_bind' {e : Sem α} {f : α → Sem β} (hf : ∀ a, NoS P (f a)) : NoS P (e >>= f) := no_bind_right hf
theorem no_stuck (s : String) : NoS P (stuck s : Sem α) := no_halt _
theorem no_unsupported (u : Unsupported) : NoS P (unsupported u : Sem α) := no_halt _
theorem no_goPanic (v : Value) : NoS P (goPanic v : Sem α) := no_halt _
theorem no_runtimePanic (e : RuntimeError) : NoS P (runtimePanic e : Sem α) := by
  unfold Go.runtimePanic
  refine no_bind' fun p => ?_
  cases e <;> first | exact no_goPanic _ | exact no_bind' fun _ => no_goPanic _ | (refine no_bind' fun _ => no_bind' fun _ => no_goPanic _)
theorem no_boundsPanic (k : IntKind) (x y : Int) (c : BoundsCode) : NoS P (boundsPanic k x y c : Sem α) := by
  unfold Go.boundsPanic
  dsimp only
  split <;> exact no_bind' fun _ => no_runtimePanic _
theorem pu_ofProgram : PuS P Go.program := pu_program (pu_pure _)
theorem pu_typeInfo (t : TypeId) : PuS P (typeInfo t) := by
  unfold Go.typeInfo
  refine pu_bind' pu_ofProgram fun p => ?_
  split <;> first | exact pu_pure _ | exact (no_stuck _).pu
theorem pu_underlying (t : TypeId) : PuS P (underlying t) := by
  unfold Go.underlying
  refine pu_bind' pu_ofProgram fun p => ?_
  split <;> first | exact pu_pure _ | exact (no_stuck _).pu
theorem pu_zeroValue (t : TypeId) : PuS P (zeroValue t) := by
  unfold Go.zeroValue
  refine pu_bind' (pu_typeInfo t) fun p => ?_
  split <;> first | exact pu_pure _ | exact (no_unsupported _).pu
theorem pu_sizeOf (t : TypeId) : PuS P (sizeOf t) := by
  unfold Go.sizeOf
  exact pu_bind' (pu_typeInfo t) fun p => pu_pure _
theorem pu_isAgg (t : TypeId) : PuS P (isAgg t) := by
  unfold Go.isAgg
  refine pu_bind' (pu_underlying t) fun p => ?_
  split <;> exact pu_pure _
theorem pu_part (t : TypeId) (cs : Array Value) (off : Nat) : PuS P (part t cs off) := by
  unfold Go.part
  refine pu_bind' (pu_isAgg t) fun b => ?_
  split
  · exact pu_bind' (pu_sizeOf t) fun _ => pu_pure _
  · split <;> first | exact pu_pure _ | exact (no_stuck _).pu
theorem pu_asBool (v : Value) : PuS P (asBool v) := by
  unfold Go.asBool
  split <;> first | exact pu_pure _ | exact (no_stuck _).pu
theorem pu_asIntOf (v : Value) : PuS P (asIntOf v) := by
  unfold Go.asIntOf
  split <;> first | exact pu_pure _ | exact (no_stuck _).pu | exact (no_unsupported _).pu
theorem pu_asAgg (v : Value) : PuS P (asAgg v) := by
  unfold Go.asAgg
  split <;> first | exact pu_pure _ | exact (no_stuck _).pu
theorem pu_sureAddr (v : Value) : PuS P (Instr.sureAddr v) := by
  unfold Instr.sureAddr
  split <;> first | exact pu_pure _ | exact (no_stuck _).pu
theorem pu_asAddr (v : Value) : PuS P (asAddr v) := by
  unfold Go.asAddr
  split <;> first | exact pu_pure _ | exact (no_stuck _).pu | exact (no_runtimePanic _).pu

theorem st_loadOne (p : Addr) : StS P (load p) := st_load fun v => (pu_pure v).st
theorem st_loadCellsFrom (a : Addr) : ∀ (n i : Nat) (acc : Array Value), StS P (loadCellsFrom a i n acc)
  | 0, _, _ => (pu_pure _).st
  | n + 1, i, _ => st_bind' (st_loadOne _) fun _ => st_loadCellsFrom a n (i + 1) _
theorem st_loadVar (t : TypeId) (p : Addr) : StS P (loadVar t p) := by
  unfold Go.loadVar
  refine st_bind' (pu_isAgg t).st fun b => ?_
  split
  · exact st_bind' (pu_sizeOf t).st fun n => st_bind' (st_loadCellsFrom p n 0 #[]) fun _ => (pu_pure _).st
  · exact st_loadOne p
theorem st_loadAt (t : TypeId) (v : Value) : StS P (Instr.loadAt t v) := by
  unfold Instr.loadAt
  exact st_bind' (pu_sureAddr v).st fun p => st_loadVar t p

theorem ex_newObj (o : Obj) : ExS P (newObj o) := ex_new fun n => (pu_pure n).st.ex
theorem ex_newRow (t : TypeId) (cs : Array Value) : ExS P (newRow t cs) := by
  unfold Go.newRow
  exact ex_bind' (ex_newObj _) fun _ => (pu_pure _).st.ex
theorem ex_newVar (t : TypeId) (v : Value) : ExS P (newVar t v) := ex_newRow _ _
theorem ex_box (t : TypeId) (v : Value) : ExS P (Instr.box t v) := by
  unfold Instr.box
  exact ex_bind' (ex_newVar t v) fun _ => (pu_pure _).st.ex
theorem ex_alloc (t : TypeId) : ExS P (Instr.alloc t true (.tuple #[])) := by
  unfold Instr.alloc
  exact ex_bind' (pu_zeroValue t).st.ex fun z => ex_bind' (ex_newVar t z) fun _ => (pu_pure _).st.ex
theorem ex_buildSlice (t : TypeId) (len : Nat) (ps : Array (Nat × Value)) : ExS P (Instr.buildSlice t len ps) := by
  unfold Instr.buildSlice
  refine ex_bind' (pu_underlying t).st.ex fun d => ?_
  split
  · refine ex_bind' (pu_sizeOf _).st.ex fun n => ?_
    dsimp only
    split
    · exact ex_bind' (no_unsupported _).pu.st.ex fun _ => by
        split
        · refine ex_bind' (pu_pure _).st.ex fun _ => ?_
          split
          · exact ex_bind' (ex_newRow _ _) fun _ => (pu_pure _).st.ex
          · exact (no_stuck _).pu.st.ex
        · refine ex_bind' (pu_zeroValue _).st.ex fun _ => ex_bind' (pu_pure _).st.ex fun _ => ?_
          split
          · exact ex_bind' (ex_newRow _ _) fun _ => (pu_pure _).st.ex
          · exact (no_stuck _).pu.st.ex
    · split
      · refine ex_bind' (pu_pure _).st.ex fun _ => ?_
        split
        · exact ex_bind' (ex_newRow _ _) fun _ => (pu_pure _).st.ex
        · exact (no_stuck _).pu.st.ex
      · refine ex_bind' (pu_zeroValue _).st.ex fun _ => ex_bind' (pu_pure _).st.ex fun _ => ?_
        split
        · exact ex_bind' (ex_newRow _ _) fun _ => (pu_pure _).st.ex
        · exact (no_stuck _).pu.st.ex
  · exact (no_stuck _).pu.st.ex

/-- Numbers, truth values and texts. -/
def plainV : Value → Bool
  | .bool _ | .int _ _ | .string _ => true
  | _ => false
def nilV : Value → Bool
  | .pointer none | .slice none _ _ | .map none | .nilFunc | .nilIface => true
  | _ => false
def intV : Value → Bool
  | .int _ _ | .slice .. | .string _ => true
  | _ => false
def funcV : Value → Bool
  | .func .. => true
  | _ => false
def lenV : Value → Bool
  | .slice .. | .string _ => true
  | _ => false
def eqOp : BinOp → Bool
  | .eql | .neq => true
  | _ => false

theorem pu_map {e : Sem α} (h : PuS P e) (f : α → β) : PuS P (do pure (f (← e))) := pu_bind' h fun _ => pu_pure _

theorem pu_intArith (op : BinOp) (k : IntKind) (x y : Int) : PuS P (Op.intArith op k x y) := by
  unfold Op.intArith
  split <;> first | exact pu_pure _ | exact (no_stuck _).pu
theorem pu_intDiv (op : BinOp) (k : IntKind) (x y : Int) : PuS P (Op.intDiv op k x y) := by
  unfold Op.intDiv
  split
  · exact (no_runtimePanic _).pu
  · split <;> first | exact pu_pure _ | exact (no_stuck _).pu
theorem pu_intBits (op : BinOp) (k : IntKind) (x y : Int) : PuS P (Op.intBits op k x y) := by
  unfold Op.intBits
  dsimp only
  split <;> first | exact pu_pure _ | exact (no_stuck _).pu
theorem pu_intCmp (op : BinOp) (x y : Int) : PuS P (Op.intCmp op x y) := by
  unfold Op.intCmp
  split <;> first | exact pu_pure _ | exact (no_stuck _).pu
theorem pu_shift (op : BinOp) (k : IntKind) (x : Int) (k' : IntKind) (y : Int) : PuS P (Op.shift op k x k' y) := by
  unfold Op.shift
  split
  · exact (no_runtimePanic _).pu
  · dsimp only
    split <;> first | exact pu_pure _ | exact (no_stuck _).pu
theorem pu_stringOp (op : BinOp) (x y : ByteArray) : PuS P (Op.stringOp op x y) := by
  unfold Op.stringOp
  dsimp only
  split <;> first | exact pu_pure _ | exact (no_stuck _).pu | (split <;> first | exact pu_pure _ | exact (no_unsupported _).pu)
theorem pu_unary (op : UnOp) (x : Value) : PuS P (Op.unary op x) := by
  unfold Op.unary
  split <;> first | exact pu_pure _ | exact (no_stuck _).pu | exact (no_unsupported _).pu | exact pu_intArith _ _ _ _ | exact pu_intBits _ _ _ _

theorem pu_equalIn_plain (d : Nat) (t : TypeId) (x y : Value) (hx : plainV x = true) (hy : plainV y = true) : PuS P (Op.equalIn (d + 1) t x y) := by
  unfold Op.equalIn
  refine pu_bind' (pu_underlying t) fun u => ?_
  split <;> first | exact pu_pure _ | exact (no_stuck _).pu | exact (no_unsupported _).pu | (exfalso; simp [plainV] at hx hy; done) | (split <;> first | exact pu_pure _ | exact (no_stuck _).pu)
theorem pu_equalIn_nil (d : Nat) (t : TypeId) (x y : Value) (h : (nilV x || nilV y) = true) : PuS P (Op.equalIn (d + 1) t x y) := by
  unfold Op.equalIn
  refine pu_bind' (pu_underlying t) fun u => ?_
  split <;> first | exact pu_pure _ | exact (no_stuck _).pu | exact (no_unsupported _).pu | (exfalso; simp [nilV] at h; done) | (split <;> first | exact pu_pure _ | exact (no_stuck _).pu) | (rename_i a b; cases a <;> cases b <;> first | exact pu_pure _ | (exfalso; simp [nilV] at h; done))

theorem pu_eqGuardIn (d : Nat) (t : TypeId) : PuS P (Op.eqGuardIn (d + 1) t .nilIface .nilIface) := by
  unfold Op.eqGuardIn
  refine pu_bind' (pu_underlying t) fun u => ?_
  split <;> first | exact pu_pure _ | (exfalso; simp_all; done)
theorem pu_eqGuard (op : BinOp) (t : TypeId) (x y : Operand) (a b : Value) (h : (plainV a && plainV b || (nilV a || nilV b)) = true) : PuS P (eqGuard op t x y a b) := by
  unfold eqGuard
  split
  all_goals
    split
    · exact pu_pure _
    · split
      · repeat' split
        all_goals first
          | exact pu_pure _
          | (refine pu_bind' (pu_eqGuardIn 9999 t) fun b => ?_
             split
             · exact (no_unsupported _).pu
             · exact pu_pure _)
      · exfalso; simp [plainV, nilV] at h
      · exact pu_pure _
theorem pu_binOp_plain (op : BinOp) (t : TypeId) (a b : Value) (ha : plainV a = true) (hb : plainV b = true) : PuS P (binOp op t a b) := by
  unfold binOp
  split <;> first
    | exact pu_shift _ _ _ _ _
    | (split
       · exact (no_stuck _).pu
       · split <;> first | exact pu_intArith _ _ _ _ | exact pu_intDiv _ _ _ _ | exact pu_intBits _ _ _ _ | exact pu_intCmp _ _ _)
    | exact pu_stringOp _ _ _
    | (exact pu_bind' (pu_equalIn_plain 9999 t _ _ ha hb) fun _ => pu_pure _)
    | exact (no_stuck _).pu
    | (exfalso; simp [plainV] at ha hb; done)
theorem pu_binOp_nil (op : BinOp) (t : TypeId) (a b : Value) (ho : eqOp op = true) (h : (nilV a || nilV b) = true) : PuS P (binOp op t a b) := by
  unfold binOp
  split <;> first
    | (exact pu_bind' (pu_equalIn_nil 9999 t _ _ h) fun _ => pu_pure _)
    | (exfalso; simp [nilV] at h; done)
    | (exfalso; simp [eqOp] at ho; done)
    | exact (no_stuck _).pu
    | exact (no_unsupported _).pu


theorem pu_bindv {e : Sem α} {f : α → Sem β} {a : α} (h : ∀ w, e.run P w = .ok a w) (hf : PuS P (f a)) : PuS P (e >>= f) := fun w b w1 hr => by
  have hr' : (f a).run P w = .ok b w1 := (run_bind_of (h w)).symm.trans hr
  obtain ⟨rfl, h2⟩ := hf w b w1 hr'
  exact ⟨rfl, fun w' => (run_bind_of (h w')).trans (h2 w')⟩
theorem st_bindv {e : Sem α} {f : α → Sem β} {a : α} (h : ∀ w, e.run P w = .ok a w) (hf : StS P (f a)) : StS P (e >>= f) := fun w b w1 hr => by
  have hr' : (f a).run P w = .ok b w1 := (run_bind_of (h w)).symm.trans hr
  obtain ⟨rfl, h2⟩ := hf w b w1 hr'
  exact ⟨rfl, fun w' hb => (run_bind_of (h w')).trans (h2 w' hb)⟩

def fieldFine (P : Program) (s : TypeId) (f : Nat) : Bool :=
  match P.underlying s with
  | some (.struct fs) => (match fs[f]? with | some x => (match P.info? x.type with | some i => i.size != 0 | none => false) | none => false)
  | _ => false
theorem run_sizeOf_of {t : TypeId} {i : TypeInfo} (h : P.info? t = some i) (w : World) : (sizeOf t).run P w = .ok i.size w := by
  simp [sizeOf, typeInfo, h]
theorem pu_fieldAt {s : TypeId} {f : Nat} (h : fieldFine P s f = true) (x : Value) : PuS P (Instr.fieldAt s x f) := by
  unfold fieldFine at h
  split at h
  · rename_i fs hu
    split at h
    · rename_i fd hf
      split at h
      · rename_i i hi
        have hz : i.size ≠ 0 := by simpa using h
        unfold Instr.fieldAt
        refine pu_bindv (fun w => run_underlying hu w) ?_
        simp only [hf]
        refine pu_bind' (pu_sureAddr _) fun a => pu_bind' ?_ fun _ => pu_pure _
        unfold fieldPlace
        refine pu_bindv (fun w => run_sizeOf_of hi w) ?_
        rw [if_neg hz]
        exact pu_pure _
      · cases h
    · cases h
  · cases h

theorem pu_sliceBound (x : Value) (y : Nat) (c : BoundsCode) : PuS P (Instr.sliceBound x y c) := by
  unfold Instr.sliceBound
  refine pu_bind' (pu_asIntOf x) fun p => ?_
  dsimp only
  split
  · exact pu_pure _
  · exact (no_boundsPanic _ _ _ _).pu
theorem pu_sliceBounds (s : Bool) (l c : Nat) (lo hi mx : Option Value) : PuS P (Instr.sliceBounds s l c lo hi mx) := by
  unfold Instr.sliceBounds
  dsimp only
  split
  · refine pu_bind' (pu_sliceBound _ _ _) fun m => ?_
    split <;> first
      | (refine pu_bind' (pu_sliceBound _ _ _) fun h => ?_; split <;> first | exact pu_bind' (pu_sliceBound _ _ _) fun _ => pu_pure _ | exact pu_bind' (pu_pure _) fun _ => pu_pure _)
      | (refine pu_bind' (pu_pure _) fun h => ?_; split <;> first | exact pu_bind' (pu_sliceBound _ _ _) fun _ => pu_pure _ | exact pu_bind' (pu_pure _) fun _ => pu_pure _)
      | (refine pu_bind' (no_stuck _).pu fun h => ?_; split <;> first | exact pu_bind' (pu_sliceBound _ _ _) fun _ => pu_pure _ | exact pu_bind' (pu_pure _) fun _ => pu_pure _)
  · refine pu_bind' (pu_pure _) fun m => ?_
    split <;> first
      | (refine pu_bind' (pu_sliceBound _ _ _) fun h => ?_; split <;> first | exact pu_bind' (pu_sliceBound _ _ _) fun _ => pu_pure _ | exact pu_bind' (pu_pure _) fun _ => pu_pure _)
      | (refine pu_bind' (pu_pure _) fun h => ?_; split <;> first | exact pu_bind' (pu_sliceBound _ _ _) fun _ => pu_pure _ | exact pu_bind' (pu_pure _) fun _ => pu_pure _)
      | (refine pu_bind' (no_stuck _).pu fun h => ?_; split <;> first | exact pu_bind' (pu_sliceBound _ _ _) fun _ => pu_pure _ | exact pu_bind' (pu_pure _) fun _ => pu_pure _)
theorem pu_slice (t : TypeId) (x : Value) (lo hi mx : Option Value) : PuS P (Instr.slice t x lo hi mx) := by
  unfold Instr.slice
  refine pu_bind' (pu_underlying t) fun d => ?_
  split
  · split
    · exact pu_bind' (no_stuck _).pu fun _ => pu_bind' (pu_sliceBounds _ _ _ _ _ _) fun _ => pu_pure _
    · exact pu_bind' (pu_sliceBounds _ _ _ _ _ _) fun _ => pu_pure _
  · exact pu_bind' (pu_sliceBounds _ _ _ _ _ _) fun _ => pu_bind' (pu_sizeOf _) fun _ => pu_pure _
  · refine pu_bind' (pu_asAddr _) fun a => pu_bind' (pu_underlying _) fun d => ?_
    split
    · exact pu_bind' (pu_sliceBounds _ _ _ _ _ _) fun _ => pu_bind' (pu_sizeOf _) fun _ => pu_pure _
    · exact (no_stuck _).pu
  · exact (no_stuck _).pu
theorem pu_sliceAt (t : TypeId) (x : Value) (lo hi mx : Option Value) : PuS P (Instr.sliceAt t x lo hi mx) := by
  unfold Instr.sliceAt
  refine pu_bind' (pu_underlying t) fun d => ?_
  split
  · exact pu_bind' (pu_sureAddr _) fun a => pu_bind' (pu_sliceBounds _ _ _ _ _ _) fun _ => pu_bind' (pu_sizeOf _) fun _ => pu_pure _
  · exact pu_slice _ _ _ _ _
theorem pu_indexAt (t : TypeId) (x i : Value) : PuS P (Instr.indexAt t x i) := by
  unfold Instr.indexAt
  refine pu_bind' (pu_asIntOf i) fun p => pu_bind' (pu_underlying t) fun d => ?_
  obtain ⟨k, n⟩ := p
  dsimp only
  have tail : ∀ (base : Option Addr) (len : Nat) (elem : TypeId) (b : Bool), PuS P (match base with
      | some a => (if 0 ≤ n ∧ n < (len : Int) then (do pure (Value.pointer (some (a.add (n.toNat * (← sizeOf elem)))))) else if b = true then unsupported (.noEntry "op/indexAddr.an index out of range at an array of length 0 or 1 (ledger 616)") else boundsPanic k n len .index)
      | none => boundsPanic k n 0 .index) := by
    intro base len elem b
    split
    · split
      · exact pu_bind' (pu_sizeOf _) fun _ => pu_pure _
      · split
        · exact (no_unsupported _).pu
        · exact (no_boundsPanic _ _ _ _).pu
    · exact (no_boundsPanic _ _ _ _).pu
  split
  · exact pu_bind' (pu_sureAddr _) fun a => pu_bind' (pu_pure _) fun q => pu_bind' (pu_underlying t) fun d => tail _ _ _ _
  · exact pu_bind' (pu_pure _) fun q => pu_bind' (pu_underlying t) fun d => tail _ _ _ _
  · exact pu_bind' (no_stuck _).pu fun q => pu_bind' (pu_underlying t) fun d => tail _ _ _ _
theorem pu_index (t : TypeId) (x i : Value) : PuS P (Instr.index t x i) := by
  unfold Instr.index
  refine pu_bind' (pu_asIntOf i) fun p => pu_bind' (pu_underlying t) fun d => ?_
  split
  · split
    · exact pu_bind' (pu_sizeOf _) fun _ => pu_part _ _ _
    · exact (no_boundsPanic _ _ _ _).pu
  · split
    · exact pu_pure _
    · exact (no_boundsPanic _ _ _ _).pu
  · exact (no_stuck _).pu
theorem pu_field (t : TypeId) (x : Value) (f : Nat) : PuS P (Instr.field t x f) := by
  unfold Instr.field
  refine pu_bind' (pu_underlying t) fun d => ?_
  split
  · split
    · exact pu_bind' (pu_asAgg _) fun _ => pu_part _ _ _
    · exact (no_stuck _).pu
  · exact (no_stuck _).pu
theorem pu_mapM {γ δ : Type} (f : γ → Sem δ) (hf : ∀ x, PuS P (f x)) : ∀ l : List γ, PuS P (l.mapM f)
  | [] => by rw [List.mapM_nil]; exact pu_pure _
  | x :: l => by rw [List.mapM_cons]; exact pu_bind' (hf x) fun _ => pu_bind' (pu_mapM f hf l) fun _ => pu_pure _

theorem pu_build (t : TypeId) (ps : Array (Nat × Value)) : PuS P (Instr.build t ps) := by
  unfold Instr.build
  refine pu_bind' (pu_zeroValue t) fun z => ?_
  refine pu_bind' (pu_underlying t) fun d => ?_
  split
  · refine pu_bind' ?_ fun pl => ?_
    · rw [Array.mapM_eq_mapM_toList]
      exact pu_bind' (pu_mapM _ (fun f => pu_bind' (pu_sizeOf _) fun _ => pu_pure _) _) fun _ => pu_pure _
    · split
      · exact pu_pure _
      · exact (no_stuck _).pu
  · refine pu_bind' (pu_sizeOf _) fun n => ?_
    split
    · exact pu_pure _
    · exact (no_stuck _).pu
  · exact (no_stuck _).pu
theorem pu_extract (v : Value) (i : Nat) : PuS P (Instr.extract v i) := by
  unfold Instr.extract
  split
  · split
    · exact pu_pure _
    · exact (no_stuck _).pu
  · exact (no_stuck _).pu
theorem pu_makeInterface (t : TypeId) (v : Value) : PuS P (Instr.makeInterface t v) := by
  unfold Instr.makeInterface
  refine pu_bind' (pu_underlying t) fun d => ?_
  split
  · exact (no_stuck _).pu
  · exact pu_pure _
theorem pu_convert_int {s d : TypeId} {k k0 : IntKind} (hs : P.underlying s = some (.int k0)) (hd : P.underlying d = some (.int k)) (x : Value) (hx : intV x = true) : PuS P (convert s d x) := by
  unfold convert
  refine pu_bindv (fun w => run_underlying hs w) (pu_bindv (fun w => run_underlying hd w) ?_)
  cases x <;> simp [intV] at hx
  all_goals split <;> first | exact pu_pure _ | (exfalso; simp_all; done) | exact (no_stuck _).pu | exact (no_unsupported _).pu
theorem pu_min2 (x y : Value) (hx : plainV x = true) (hy : plainV y = true) : PuS P (Builtin.min2 x y) := by
  unfold Builtin.min2
  split <;> first | exact pu_pure _ | (exfalso; simp [plainV] at hx hy; done) | exact (no_stuck _).pu | exact pu_bind' (pu_stringOp _ _ _) fun _ => pu_bind' (pu_asBool _) fun _ => pu_pure _
theorem pu_max2 (x y : Value) (hx : plainV x = true) (hy : plainV y = true) : PuS P (Builtin.max2 x y) := by
  unfold Builtin.max2
  split <;> first | exact pu_pure _ | (exfalso; simp [plainV] at hx hy; done) | exact (no_stuck _).pu | exact pu_bind' (pu_stringOp _ _ _) fun _ => pu_bind' (pu_asBool _) fun _ => pu_pure _
theorem pu_min (ts : Array TypeId) (t : TypeId) (x y : Value) (hx : plainV x = true) (hy : plainV y = true) : PuS P (Builtin.min_ ts t #[x, y]) := by
  unfold Builtin.min_
  simp only [List.foldlM_cons, List.foldlM_nil]
  exact pu_bind' (pu_min2 x y hx hy) fun _ => pu_pure _
theorem pu_max (ts : Array TypeId) (t : TypeId) (x y : Value) (hx : plainV x = true) (hy : plainV y = true) : PuS P (Builtin.max_ ts t #[x, y]) := by
  unfold Builtin.max_
  simp only [List.foldlM_cons, List.foldlM_nil]
  exact pu_bind' (pu_max2 x y hx hy) fun _ => pu_pure _
theorem pu_len (ts : Array TypeId) (t : TypeId) (x : Value) (hx : lenV x = true) : PuS P (Builtin.len_ ts t #[x]) := by
  unfold Builtin.len_
  cases x <;> simp [lenV] at hx
  all_goals
    simp only [List.getElem?_toArray, List.getElem?_cons_zero]
    split
    · rename_i h
      simp only [Prod.mk.injEq, Option.some.injEq] at h
      obtain ⟨_, rfl⟩ := h
      refine pu_bind' (pu_underlying _) fun d => ?_
      split <;> first | exact pu_pure _ | (exfalso; simp_all; done) | exact (no_stuck _).pu | (refine pu_bind' (pu_underlying _) fun d => ?_; split <;> first | exact pu_pure _ | exact (no_stuck _).pu)
    · exact (no_stuck _).pu

/-! ### The kinds of operations of a region -/
def kd (P : Program) (o : Oper) : Nat :=
  match o.op with
  | .move _ | .assign _ | .pick .. | .nilCheck _ | .binOp .. | .unOp .. | .build .. | .extract .. | .field .. | .indexAddr .. | .index .. | .slice .. | .makeInterface .. => 0
  | .fieldAddr s _ f => if fieldFine P s f then 0 else 4
  | .convert s d _ => (match P.underlying s, P.underlying d with | some (.int _), some (.int _) => 0 | _, _ => 4)
  | .load .. => 1
  | .alloc _ | .box .. | .buildSlice .. => 2
  | .call c => (match c.callee with
    | .builtin .len => if c.args.size = 1 then 0 else 4
    | .builtin .min | .builtin .max => if c.args.size = 2 then 0 else 4
    | .value _ => 3
    | _ => 4)
  | _ => 4
def okB (o : Oper) (ρ : Operand → Value) : Bool :=
  match o.op with
  | .nilCheck x => !funcV (ρ x)
  | .binOp op _ x y _ => plainV (ρ x) && plainV (ρ y) || (eqOp op && (nilV (ρ x) || nilV (ρ y)))
  | .convert _ _ x => intV (ρ x)
  | .call c => (match c.callee with
    | .builtin .len => (c.args.map ρ).all lenV
    | .builtin .min | .builtin .max => (c.args.map ρ).all plainV
    | _ => true)
  | _ => true

def PuV (P : Program) (e : Sem Next) : Prop := ∀ w n w1, e.run P w = .ok n w1 → w1 = w ∧ ∃ v, n = .value v ∧ ∀ w', e.run P w' = .ok (.value v) w'
def StV (P : Program) (e : Sem Next) : Prop := ∀ w n w1, e.run P w = .ok n w1 → w1 = w ∧ ∃ v, n = .value v ∧ ∀ w', Below w.heap.size w w' → e.run P w' = .ok (.value v) w'
def ExV (P : Program) (e : Sem Next) : Prop := ∀ w n w1, e.run P w = .ok n w1 → Below w.heap.size w w1 ∧ ∃ v, n = .value v

theorem run_value {e : Sem Value} {w w1 : World} {n : Next} (h : (do pure (.value (← e)) : Sem Next).run P w = .ok n w1) : ∃ v, n = .value v ∧ e.run P w = .ok v w1 := by
  obtain ⟨a, w2, h1, h2⟩ := run_bind_ok h
  simp only [pure, Sem.run, Result.ok.injEq] at h2
  obtain ⟨rfl, rfl⟩ := h2
  exact ⟨a, rfl, h1⟩
theorem run_value_of {e : Sem Value} {w w1 : World} {v : Value} (h : e.run P w = .ok v w1) : (do pure (.value (← e)) : Sem Next).run P w = .ok (.value v) w1 := by
  refine (run_bind_of h).trans ?_
  simp [pure]
theorem puv_of {e : Sem Value} (h : PuS P e) : PuV P (do pure (.value (← e))) := fun w n w1 hr => by
  obtain ⟨v, rfl, h1⟩ := run_value hr
  obtain ⟨rfl, h2⟩ := h w v w1 h1
  exact ⟨rfl, v, rfl, fun w' => run_value_of (h2 w')⟩
theorem stv_of {e : Sem Value} (h : StS P e) : StV P (do pure (.value (← e))) := fun w n w1 hr => by
  obtain ⟨v, rfl, h1⟩ := run_value hr
  obtain ⟨rfl, h2⟩ := h w v w1 h1
  exact ⟨rfl, v, rfl, fun w' hb => run_value_of (h2 w' hb)⟩
theorem exv_of {e : Sem Value} (h : ExS P e) : ExV P (do pure (.value (← e))) := fun w n w1 hr => by
  obtain ⟨v, rfl, h1⟩ := run_value hr
  exact ⟨h w v w1 h1, v, rfl⟩
theorem puv_pure (v : Value) : PuV P (pure (.value v)) := fun w n w1 hr => by
  simp only [pure, Sem.run, Result.ok.injEq] at hr
  obtain ⟨rfl, rfl⟩ := hr
  exact ⟨rfl, v, rfl, fun w' => by simp [pure]⟩
theorem puv_no {e : Sem Next} (h : NoS P e) : PuV P e := fun w n w1 hr => absurd hr (h w n w1)

theorem puv_bind {e : Sem α} {f : α → Sem Next} (h : PuS P e) (hf : ∀ a, PuV P (f a)) : PuV P (e >>= f) := fun w n w1 hr => by
  obtain ⟨a, w2, h1, h2⟩ := run_bind_ok hr
  obtain ⟨rfl, h3⟩ := h w a w2 h1
  obtain ⟨rfl, v, rfl, h4⟩ := hf a w2 n w1 h2
  exact ⟨rfl, v, rfl, fun w' => (run_bind_of (h3 w')).trans (h4 w')⟩

theorem size1 {γ : Type} {xs : Array γ} (h : xs.size = 1) : ∃ x, xs = #[x] := by
  obtain ⟨l⟩ := xs
  match l, h with
  | [x], _ => exact ⟨x, rfl⟩
theorem size2 {γ : Type} {xs : Array γ} (h : xs.size = 2) : ∃ x y, xs = #[x, y] := by
  obtain ⟨l⟩ := xs
  match l, h with
  | [x, y], _ => exact ⟨x, y, rfl⟩

theorem puv_exec {o : Oper} {ρ : Operand → Value} (hk : kd P o = 0) (hb : okB o ρ = true) : PuV P (execOp ρ o) := by
  obtain ⟨dst, op, type, pos, after, guard⟩ := o
  unfold execOp
  dsimp only
  cases op <;> dsimp only [kd, okB] at hk hb ⊢ <;> try (exfalso; revert hk; decide)
  case move x => exact puv_pure _
  case assign x => exact puv_pure _
  case pick c a b => exact puv_bind (pu_asBool _) fun _ => puv_pure _
  case nilCheck x =>
    split
    · exact puv_no (no_runtimePanic _)
    · exact puv_no (no_runtimePanic _)
    · exact puv_no (no_runtimePanic _)
    · rename_i h; rw [h] at hb; simp [funcV] at hb
    · exact puv_pure _
  case binOp op t x y t' =>
    refine puv_of (pu_bind' (pu_eqGuard _ _ _ _ _ _ ?_) fun _ => ?_)
    · revert hb
      cases plainV (ρ x) <;> cases plainV (ρ y) <;> cases eqOp op <;> cases nilV (ρ x) <;> cases nilV (ρ y) <;> simp
    · by_cases h : (plainV (ρ x) && plainV (ρ y)) = true
      · simp only [Bool.and_eq_true] at h
        exact pu_binOp_plain _ _ _ _ h.1 h.2
      · simp only [h, Bool.false_or, Bool.and_eq_true] at hb
        exact pu_binOp_nil _ _ _ _ hb.1 hb.2
  case unOp op t x => exact puv_of (pu_unary _ _)
  case build t ps => exact puv_of (pu_build _ _)
  case extract t i => exact puv_of (pu_extract _ _)
  case field t x f => exact puv_of (pu_field _ _ _)
  case indexAddr t x i => exact puv_of (pu_indexAt _ _ _)
  case index t x i => exact puv_of (pu_index _ _ _)
  case slice t x lo hi mx => exact puv_of (pu_sliceAt _ _ _ _ _)
  case makeInterface t x => exact puv_of (pu_makeInterface _ _)
  case fieldAddr s x f =>
    by_cases h : fieldFine P s f = true
    · exact puv_of (pu_fieldAt h _)
    · simp [h] at hk
  case convert s d x =>
    split at hk
    · rename_i k0 k hs hd
      exact puv_of (pu_convert_int hs hd _ hb)
    · cases hk
  case call c =>
    obtain ⟨callee, args, argTypes⟩ := c
    cases callee <;> dsimp only at hk hb ⊢ <;> try (exfalso; revert hk; decide)
    rename_i b
    cases b <;> dsimp only at hk hb ⊢ <;> try (exfalso; revert hk; decide)
    case len =>
      split at hk
      · rename_i hs
        obtain ⟨x, rfl⟩ := size1 hs
        have e : Array.map ρ #[x] = #[ρ x] := by simp
        have hb' : lenV (ρ x) = true := by simpa using hb
        have h := puv_of (pu_len (P := P) argTypes type (ρ x) hb')
        rw [← e] at h
        exact h
      · cases hk
    case max =>
      split at hk
      · rename_i hs
        obtain ⟨x, y, rfl⟩ := size2 hs
        have hb' : plainV (ρ x) = true ∧ plainV (ρ y) = true := by simpa using hb
        have e : Array.map ρ #[x, y] = #[ρ x, ρ y] := by simp
        have h := puv_of (pu_max (P := P) argTypes type (ρ x) (ρ y) hb'.1 hb'.2)
        rw [← e] at h
        exact h
      · cases hk
    case min =>
      split at hk
      · rename_i hs
        obtain ⟨x, y, rfl⟩ := size2 hs
        have hb' : plainV (ρ x) = true ∧ plainV (ρ y) = true := by simpa using hb
        have e : Array.map ρ #[x, y] = #[ρ x, ρ y] := by simp
        have h := puv_of (pu_min (P := P) argTypes type (ρ x) (ρ y) hb'.1 hb'.2)
        rw [← e] at h
        exact h
      · cases hk
theorem stv_exec {o : Oper} {ρ : Operand → Value} (hk : kd P o = 1) : StV P (execOp ρ o) := by
  obtain ⟨dst, op, type, pos, after, guard⟩ := o
  unfold execOp
  dsimp only
  cases op <;> dsimp only [kd] at hk ⊢ <;> try (exfalso; revert hk; decide)
  case load t x => exact stv_of (st_loadAt _ _)
  case fieldAddr s x f => split at hk <;> cases hk
  case convert s d x => split at hk <;> cases hk
  case call c =>
    exfalso; revert hk
    split <;> (try split) <;> simp
theorem exv_exec {o : Oper} {ρ : Operand → Value} (hk : kd P o = 2) : ExV P (execOp ρ o) := by
  obtain ⟨dst, op, type, pos, after, guard⟩ := o
  unfold execOp
  dsimp only
  cases op <;> dsimp only [kd] at hk ⊢ <;> try (exfalso; revert hk; decide)
  case alloc t => exact exv_of (ex_alloc _)
  case box t x => exact exv_of (ex_box _ _)
  case buildSlice t n ps => exact exv_of (ex_buildSlice _ _ _)
  case fieldAddr s x f => split at hk <;> cases hk
  case convert s d x => split at hk <;> cases hk
  case call c =>
    exfalso; revert hk
    split <;> (try split) <;> simp
end

section
variable {P : Program} {l : Array Oper} {fl : Nat → Bool}

/-- No end but the ordinary one. -/
def QF : Exit → Act → World → Prop := fun _ _ _ => False
theorem not_letsOut_QF : ¬ LetsOut QF := fun ⟨_, _, h⟩ => h

/-- Operation number i, carried out in state a. A call that is marked keeps what is below the world's size. -/
def cOp (P : Program) (l : Array Oper) (fl : Nat → Bool) (i : Nat) (K : Act → World → Prop) (a : Act) (w : World) : Prop :=
  match l[i]? with
  | none => K a w
  | some o => if Region.wanted o (yielded l a.tmps) = true then okB o a.eval = true ∧ o.wp P a w (fun a' w' => (fl i = true → Below w.heap.size w w') ∧ K a' w') QF else K (a.put o.dst undef) w

theorem cOp_mono {i : Nat} {K K' : Act → World → Prop} (h : ∀ a w, K a w → K' a w) {a : Act} {w : World} (hh : cOp P l fl i K a w) : cOp P l fl i K' a w := by
  unfold cOp at *
  split
  · rename_i ho; simp only [ho] at hh; exact h _ _ hh
  · rename_i o ho
    simp only [ho] at hh
    split
    · rename_i hw
      rw [if_pos hw] at hh
      exact ⟨hh.1, Oper.wp_mono (fun a w hk => ⟨hk.1, h _ _ hk.2⟩) hh.2⟩
    · rename_i hw
      rw [if_neg hw] at hh
      exact h _ _ hh

theorem wpOp_of_cOp {i : Nat} {K : Act → World → Prop} {Q : Exit → Act → World → Prop} {a : Act} {w : World} (h : cOp P l fl i K a w) : wpOp P l Q i K a w := by
  unfold cOp at h
  unfold wpOp
  split
  · rename_i ho; simp only [ho] at h; exact h
  · rename_i o ho
    simp only [ho] at h
    split
    · rename_i hw
      rw [if_pos hw] at h
      refine .inl ?_
      have h2 := h.2
      unfold Oper.wp at h2 ⊢
      generalize (execOp a.eval o).run P w = r at *
      cases r with
      | ok n w' =>
        cases n <;> simp only [Oper.upon] at h2 ⊢
        case value u => exact h2.2
        case skip => exact h2.2
        case defer d => exact h2.2
        case enter f args =>
          refine Calls.mono h2 fun e w'' he => ?_
          cases e with
          | returned u => exact he.2
          | panicked c => exact he.elim
          | outgrown => exact (not_letsOut_QF he).elim
        case row r args => exact Rows.mono h2 fun _ _ he => he.2
      | halt x w' => cases x <;> simp only [Oper.upon] at h2; exact h2.elim
    · rename_i hw
      rw [if_neg hw] at h
      exact h

/-- Where an operation is carried out there is a state in which it goes on, with the operation's temporary written. -/
theorem wp_exists {o : Oper} {a : Act} {w : World} {K : Act → World → Prop} (h : o.wp P a w K QF) : ∃ u ds w', K { (a.put o.dst u) with defers := ds } w' := by
  unfold Oper.wp at h
  generalize (execOp a.eval o).run P w = r at *
  cases r with
  | ok n w' =>
    cases n <;> simp only [Oper.upon] at h
    case value u => exact ⟨u, a.defers, w', by cases ho : o.dst <;> simpa [Act.put, ho] using h⟩
    case skip => exact ⟨undef, a.defers, w', by cases ho : o.dst <;> simpa [Act.put, ho] using h⟩
    case defer d => exact ⟨undef, d :: a.defers, w', by cases ho : o.dst <;> simpa [Act.put, ho] using h⟩
    case enter f args =>
      obtain ⟨e, w'', fr, he, _⟩ := h []
      cases e with
      | returned u => exact ⟨u, a.defers, w'', by cases ho : o.dst <;> simpa [Act.put, ho] using he⟩
      | panicked c => exact he.elim
      | outgrown => exact (not_letsOut_QF he).elim
    case row r args =>
      obtain ⟨u, w'', he, _⟩ := h default []
      exact ⟨u, a.defers, w'', by cases ho : o.dst <;> simpa [Act.put, ho] using he⟩
  | halt x w' => cases x <;> simp only [Oper.upon] at h; exact h.elim

theorem eval_defers (a : Act) (ds : List Deferred) : ({ a with defers := ds } : Act).eval = a.eval := by
  funext x; cases x <;> rfl

/-- The same operation with another temporary written that it does not look at. -/
theorem wp_put {o : Oper} (hs : ∀ cs b, o.op ≠ .select cs b) {d : Option Tmp} {v : Value} (h1 : ∀ t, d = some t → t ∉ o.looksAt l) (h2 : ∀ t, d = some t → o.dst ≠ some t)
    {a : Act} {w : World} {K K' : Act → World → Prop} (h : o.wp P a w K QF) (hK : ∀ a' w', K a' w' → K' (a'.put d v) w') : o.wp P (a.put d v) w K' QF := by
  have h2' : ∀ t, o.dst = some t → d ≠ some t := fun t ht hd => h2 t hd ht
  unfold Oper.wp at *
  rw [execOp_put o hs a d v h1]
  generalize (execOp a.eval o).run P w = r at *
  cases r with
  | ok n w' =>
    cases n <;> simp only [Oper.upon] at h ⊢
    case value u => rw [← Act.put_comm a u v h2']; exact hK _ _ h
    case skip => rw [← Act.put_comm a undef v h2']; exact hK _ _ h
    case defer d' =>
      rw [Act.put_defers, ← Act.put_comm _ undef v h2']
      exact hK _ _ h
    case enter f args =>
      refine Calls.mono h fun e w'' he => ?_
      cases e with
      | returned u => show K' ((a.put d v).put o.dst u) w''; rw [← Act.put_comm a u v h2']; exact hK _ _ he
      | panicked c => exact he.elim
      | outgrown => exact (not_letsOut_QF he).elim
    case row r args => exact Rows.mono h fun u w'' he => by rw [← Act.put_comm a u v h2']; exact hK _ _ he
  | halt x w' => cases x <;> simp only [Oper.upon] at h ⊢; exact h

theorem okB_put {o : Oper} {d : Option Tmp} {v : Value} (h1 : ∀ t, d = some t → t ∉ o.looksAt l) (a : Act) : okB o (a.put d v).eval = okB o a.eval := by
  have e : ∀ x ∈ o.op.operands, (a.put d v).eval x = a.eval x := fun x hx => Act.eval_put fun t ht hxt => h1 t ht (by
    subst hxt
    exact List.mem_append_left _ (List.mem_filterMap.2 ⟨.tmp t, by simpa using hx, rfl⟩))
  obtain ⟨dst, op, type, pos, after, guard⟩ := o
  dsimp only at e
  unfold okB
  cases op <;> simp only [Op.operands] at e ⊢ <;> try rfl
  case nilCheck x => rw [e x (by simp)]
  case binOp op t x y t' => rw [e x (by simp), e y (by simp)]
  case convert s d x => rw [e x (by simp)]
  case call c =>
    have em : Array.map (a.put d v).eval c.args = Array.map a.eval c.args := Array.map_congr_left fun x hx => e x (by simp [Call.operands, hx])
    rw [em]


theorem wp_put' {o : Oper} (hs : ∀ cs b, o.op ≠ .select cs b) {d : Option Tmp} {v : Value} (h1 : ∀ t, d = some t → t ∉ o.looksAt l) (h2 : ∀ t, d = some t → o.dst ≠ some t)
    {a : Act} {w : World} {K K' : Act → World → Prop} (h : o.wp P a w K QF)
    (hK : ∀ u ds w', K { (a.put o.dst u) with defers := ds } w' → K' (({ (a.put o.dst u) with defers := ds } : Act).put d v) w') : o.wp P (a.put d v) w K' QF := by
  have h2' : ∀ t, o.dst = some t → d ≠ some t := fun t ht hd => h2 t hd ht
  have same : ∀ u, ({ (a.put o.dst u) with defers := a.defers } : Act) = a.put o.dst u := fun u => by cases o.dst <;> rfl
  have same' : ∀ u ds, ({ (a.put o.dst u) with defers := ds } : Act) = ({ a with defers := ds } : Act).put o.dst u := fun u ds => by cases o.dst <;> rfl
  unfold Oper.wp at *
  rw [execOp_put o hs a d v h1]
  generalize (execOp a.eval o).run P w = r at *
  cases r with
  | ok n w' =>
    cases n <;> simp only [Oper.upon] at h ⊢
    case value u => rw [← Act.put_comm a u v h2', ← same u]; exact hK _ _ _ (by rw [same]; exact h)
    case skip => rw [← Act.put_comm a undef v h2', ← same undef]; exact hK _ _ _ (by rw [same]; exact h)
    case defer d' =>
      rw [Act.put_defers, ← Act.put_comm _ undef v h2', ← same']
      exact hK _ _ _ (by rw [same']; exact h)
    case enter f args =>
      refine Calls.mono h fun e w'' he => ?_
      cases e with
      | returned u => show K' ((a.put d v).put o.dst u) w''; rw [← Act.put_comm a u v h2', ← same u]; exact hK _ _ _ (by rw [same]; exact he)
      | panicked c => exact he.elim
      | outgrown => exact (not_letsOut_QF he).elim
    case row r args => exact Rows.mono h fun u w'' he => by rw [← Act.put_comm a u v h2', ← same u]; exact hK _ _ _ (by rw [same]; exact he)
  | halt x w' => cases x <;> simp only [Oper.upon] at h ⊢; exact h

theorem wp_unput {o : Oper} (hs : ∀ cs b, o.op ≠ .select cs b) {d : Option Tmp} {v : Value} (h1 : ∀ t, d = some t → t ∉ o.looksAt l) (h2 : ∀ t, d = some t → o.dst ≠ some t)
    {a : Act} {w : World} {K K' : Act → World → Prop} (h : o.wp P (a.put d v) w K QF)
    (hK : ∀ u ds w', K (({ (a.put o.dst u) with defers := ds } : Act).put d v) w' → K' { (a.put o.dst u) with defers := ds } w') : o.wp P a w K' QF := by
  have h2' : ∀ t, o.dst = some t → d ≠ some t := fun t ht hd => h2 t hd ht
  have same : ∀ u, ({ (a.put o.dst u) with defers := a.defers } : Act) = a.put o.dst u := fun u => by cases o.dst <;> rfl
  have same' : ∀ u ds, ({ (a.put o.dst u) with defers := ds } : Act) = ({ a with defers := ds } : Act).put o.dst u := fun u ds => by cases o.dst <;> rfl
  unfold Oper.wp at *
  rw [execOp_put o hs a d v h1] at h
  generalize (execOp a.eval o).run P w = r at *
  cases r with
  | ok n w' =>
    cases n <;> simp only [Oper.upon] at h ⊢
    case value u => rw [← Act.put_comm a u v h2'] at h; rw [← same u]; exact hK _ _ _ (by rw [same]; exact h)
    case skip => rw [← Act.put_comm a undef v h2'] at h; rw [← same undef]; exact hK _ _ _ (by rw [same]; exact h)
    case defer d' =>
      rw [Act.put_defers, ← Act.put_comm _ undef v h2'] at h
      rw [← same']
      exact hK _ _ _ (by rw [same']; exact h)
    case enter f args =>
      refine Calls.mono h fun e w'' he => ?_
      cases e with
      | returned u =>
        have he' : K ((a.put d v).put o.dst u) w'' := he
        rw [← Act.put_comm a u v h2'] at he'
        show K' (a.put o.dst u) w''
        rw [← same u]
        exact hK _ _ _ (by rw [same]; exact he')
      | panicked c => exact he.elim
      | outgrown => exact (not_letsOut_QF he).elim
    case row r args => exact Rows.mono h fun u w'' he => by rw [← Act.put_comm a u v h2'] at he; rw [← same u]; exact hK _ _ _ (by rw [same]; exact he)
  | halt x w' => cases x <;> simp only [Oper.upon] at h ⊢; exact h

theorem StV.ex {e : Sem Next} (h : StV P e) : ExV P e := fun w n w1 hr => by
  obtain ⟨rfl, v, rfl, _⟩ := h w n w1 hr
  exact ⟨Below.refl _ _, v, rfl⟩
theorem PuV.st {e : Sem Next} (h : PuV P e) : StV P e := fun w n w1 hr => by
  obtain ⟨rfl, v, rfl, h⟩ := h w n w1 hr
  exact ⟨rfl, v, rfl, fun w' _ => h w'⟩

/-- What an operation that goes on has run to. -/
theorem wp_run_st {o : Oper} {a : Act} {w : World} {K : Act → World → Prop} (he : StV P (execOp a.eval o)) (h : o.wp P a w K QF) :
    ∃ v, K (a.put o.dst v) w ∧ ∀ w', Below w.heap.size w w' → (execOp a.eval o).run P w' = .ok (.value v) w' := by
  unfold Oper.wp at h
  cases hr : (execOp a.eval o).run P w with
  | ok n w1 =>
    obtain ⟨rfl, v, rfl, hs⟩ := he w n w1 hr
    rw [hr] at h
    exact ⟨v, h, hs⟩
  | halt x w1 => rw [hr] at h; cases x <;> simp only [Oper.upon] at h; exact h.elim
theorem wp_run_pu {o : Oper} {a : Act} {w : World} {K : Act → World → Prop} (he : PuV P (execOp a.eval o)) (h : o.wp P a w K QF) :
    ∃ v, K (a.put o.dst v) w ∧ ∀ w', (execOp a.eval o).run P w' = .ok (.value v) w' := by
  unfold Oper.wp at h
  cases hr : (execOp a.eval o).run P w with
  | ok n w1 =>
    obtain ⟨rfl, v, rfl, hs⟩ := he w n w1 hr
    rw [hr] at h
    exact ⟨v, h, hs⟩
  | halt x w1 => rw [hr] at h; cases x <;> simp only [Oper.upon] at h; exact h.elim
theorem wp_of_run {o : Oper} {a : Act} {w w1 : World} {v : Value} {K : Act → World → Prop} (hr : (execOp a.eval o).run P w = .ok (.value v) w1) (h : K (a.put o.dst v) w1) : o.wp P a w K QF := by
  unfold Oper.wp
  rw [hr]
  exact h
theorem wp_below {o : Oper} {a : Act} {w : World} {K : Act → World → Prop} (he : ExV P (execOp a.eval o)) (h : o.wp P a w K QF) :
    o.wp P a w (fun a' w' => Below w.heap.size w w' ∧ K a' w') QF := by
  unfold Oper.wp at h
  cases hr : (execOp a.eval o).run P w with
  | ok n w1 =>
    obtain ⟨hb, v, rfl⟩ := he w n w1 hr
    rw [hr] at h
    exact wp_of_run hr ⟨hb, h⟩
  | halt x w1 => rw [hr] at h; cases x <;> simp only [Oper.upon] at h; exact h.elim

/-- Which two operations may change places, the first before the second. -/
def swB (P : Program) (l : Array Oper) (fl : Nat → Bool) (i j : Nat) : Bool :=
  match l[i]?, l[j]? with
  | some oi, some oj => oi.apart l oj && (kd P oi == 0 || kd P oj == 0 || (kd P oi == 1 && (kd P oj == 1 || kd P oj == 2 || (kd P oj == 3 && fl j))))
  | _, _ => true

theorem wanted_upd {o : Oper} {a : Act} {d : Option Tmp} {u : Value} {ds : List Deferred} (h : ∀ t, d = some t → t ∉ o.looksAt l) :
    Region.wanted o (yielded l ({ (a.put d u) with defers := ds } : Act).tmps) = Region.wanted o (yielded l a.tmps) := wanted_put o a d u h
theorem eval_upd (a : Act) (ds : List Deferred) : ({ a with defers := ds } : Act).eval = a.eval := eval_defers a ds
theorem exec_upd {o : Oper} (hs : ∀ cs b, o.op ≠ .select cs b) {a : Act} {d : Option Tmp} {u : Value} {ds : List Deferred} (h : ∀ t, d = some t → t ∉ o.looksAt l) :
    execOp ({ (a.put d u) with defers := ds } : Act).eval o = execOp a.eval o := by rw [eval_upd]; exact execOp_put o hs a d u h
theorem okB_upd {o : Oper} {a : Act} {d : Option Tmp} {u : Value} {ds : List Deferred} (h : ∀ t, d = some t → t ∉ o.looksAt l) :
    okB o ({ (a.put d u) with defers := ds } : Act).eval = okB o a.eval := by rw [eval_upd]; exact okB_put h a

theorem swap {i j : Nat} {oi oj : Oper} (hi : l[i]? = some oi) (hj : l[j]? = some oj) (hsi : ∀ cs b, oi.op ≠ .select cs b) (hsj : ∀ cs b, oj.op ≠ .select cs b)
    (hB : swB P l fl i j = true) {K : Act → World → Prop} {a : Act} {w : World} (h : cOp P l fl i (cOp P l fl j K) a w) : cOp P l fl j (cOp P l fl i K) a w := by
  simp only [swB, hi, hj, Bool.and_eq_true, Bool.or_eq_true, beq_iff_eq] at hB
  obtain ⟨hap, hk⟩ := hB
  obtain ⟨p1, p2, p3⟩ := Oper.apart_spec hap
  have p2' : ∀ t, oj.dst = some t → oi.dst ≠ some t := fun t ht hd => p2 t hd ht
  unfold cOp at h ⊢
  simp only [hi, hj] at h ⊢
  by_cases hwi : Region.wanted oi (yielded l a.tmps) = true
  · rw [if_pos hwi] at h
    obtain ⟨hoi, h⟩ := h
    by_cases hwj : Region.wanted oj (yielded l a.tmps) = true
    · rw [if_pos hwj]
      have wj : ∀ u ds, Region.wanted oj (yielded l ({ (a.put oi.dst u) with defers := ds } : Act).tmps) = true := fun u ds => by rw [wanted_upd p1]; exact hwj
      have wi : ∀ u ds, Region.wanted oi (yielded l ({ (a.put oj.dst u) with defers := ds } : Act).tmps) = true := fun u ds => by rw [wanted_upd p3]; exact hwi
      have wj' : ∀ u, Region.wanted oj (yielded l (a.put oi.dst u).tmps) = true := fun u => by rw [wanted_put oj a oi.dst u p1]; exact hwj
      have wi' : ∀ u, Region.wanted oi (yielded l (a.put oj.dst u).tmps) = true := fun u => by rw [wanted_put oi a oj.dst u p3]; exact hwi
      rcases hk with (hk | hk) | ⟨hk1, hk2⟩
      · obtain ⟨v, ⟨_, hv⟩, hrun⟩ := wp_run_pu (puv_exec hk hoi) h
        rw [if_pos (wj' v)] at hv
        obtain ⟨hoj, hv⟩ := hv
        refine ⟨by rw [okB_put p1] at hoj; exact hoj, wp_unput hsj p1 p2 hv fun u ds w' hh => ⟨hh.1, ?_⟩⟩
        rw [if_pos (wi u ds)]
        refine ⟨by rw [okB_upd p3]; exact hoi, wp_of_run (v := v) (w1 := w') (by rw [exec_upd hsi p3]; exact hrun w') ⟨fun _ => Below.refl _ _, hh.2⟩⟩
      · obtain ⟨u0, ds0, w0, hx⟩ := wp_exists h
        have hx2 := hx.2
        rw [if_pos (wj u0 ds0)] at hx2
        have hoj : okB oj a.eval = true := by have := hx2.1; rw [okB_upd p1] at this; exact this
        obtain ⟨v, _, hrun⟩ := wp_run_pu (puv_exec hk hx2.1) hx2.2
        rw [exec_upd hsj p1] at hrun
        refine ⟨hoj, wp_of_run (hrun w) ⟨fun _ => Below.refl _ _, ?_⟩⟩
        rw [if_pos (wi' v)]
        refine ⟨by rw [okB_put p3]; exact hoi, wp_put' hsi p3 p2' h fun u ds w' hh => ⟨hh.1, ?_⟩⟩
        have hh2 := hh.2
        rw [if_pos (wj u ds)] at hh2
        obtain ⟨v', hv', hrun'⟩ := wp_run_pu (puv_exec hk hh2.1) hh2.2
        have e := hrun' w
        rw [exec_upd hsj p1, hrun w] at e
        simp only [Result.ok.injEq, Next.value.injEq, and_true] at e
        rw [e]
        exact hv'.2
      · obtain ⟨v, ⟨_, hv⟩, hrun⟩ := wp_run_st (stv_exec hk1) h
        rw [if_pos (wj' v)] at hv
        obtain ⟨hoj, hv⟩ := hv
        have hv2 : oj.wp P (a.put oi.dst v) w (fun a' w' => Below w.heap.size w w' ∧ (fl j = true → Below w.heap.size w w') ∧ K a' w') QF := by
          rcases hk2 with (hk2 | hk2) | ⟨_, hk2⟩
          · exact wp_below (stv_exec hk2).ex hv
          · exact wp_below (exv_exec hk2) hv
          · exact Oper.wp_mono (fun _ _ hh => ⟨hh.1 hk2, hh⟩) hv
        refine ⟨by rw [okB_put p1] at hoj; exact hoj, wp_unput hsj p1 p2 hv2 fun u ds w' hh => ⟨hh.2.1, ?_⟩⟩
        rw [if_pos (wi u ds)]
        refine ⟨by rw [okB_upd p3]; exact hoi, wp_of_run (v := v) (w1 := w') (by rw [exec_upd hsi p3]; exact hrun w' hh.1) ⟨fun _ => Below.refl _ _, hh.2.2⟩⟩
    · rw [if_neg hwj]
      have wj : ∀ u ds, ¬ Region.wanted oj (yielded l ({ (a.put oi.dst u) with defers := ds } : Act).tmps) = true := fun u ds => by rw [wanted_upd p1]; exact hwj
      rw [if_pos (by rw [wanted_put oi a oj.dst undef p3]; exact hwi)]
      refine ⟨by rw [okB_put p3]; exact hoi, wp_put' hsi p3 p2' h fun u ds w' hh => ⟨hh.1, ?_⟩⟩
      have hh2 := hh.2
      rw [if_neg (wj u ds)] at hh2
      exact hh2
  · rw [if_neg hwi] at h
    by_cases hwj : Region.wanted oj (yielded l a.tmps) = true
    · rw [if_pos hwj]
      rw [if_pos (by rw [wanted_put oj a oi.dst undef p1]; exact hwj)] at h
      refine ⟨by have := h.1; rw [okB_put p1] at this; exact this, wp_unput hsj p1 p2 h.2 fun u ds w' hh => ⟨hh.1, ?_⟩⟩
      rw [if_neg (by rw [wanted_upd p3]; exact hwi)]
      exact hh.2
    · rw [if_neg hwj]
      rw [if_neg (by rw [wanted_put oj a oi.dst undef p1]; exact hwj)] at h
      rw [if_neg (by rw [wanted_put oi a oj.dst undef p3]; exact hwi), ← Act.put_comm a undef undef p2]
      exact h

theorem cOp_exists {i : Nat} {K : Act → World → Prop} {a : Act} {w : World} (h : cOp P l fl i K a w) : ∃ a' w', K a' w' := by
  unfold cOp at h
  split at h
  · exact ⟨_, _, h⟩
  · split at h
    · obtain ⟨u, ds, w', hh⟩ := wp_exists h.2
      exact ⟨_, _, hh.2⟩
    · exact ⟨_, _, h⟩

/-- Whatever order is picked from here on. -/
def cAny (P : Program) (md : Region.Mode) (l : Array Oper) (fl : Nat → Bool) (Q : Act → World → Prop) : Nat → Array Bool → Act → World → Prop
  | 0, listed, a, w => Region.ready md l listed = [] ∧ Q a w
  | f + 1, listed, a, w => (Region.ready md l listed = [] → Q a w) ∧ ∀ i ∈ Region.ready md l listed, cOp P l fl i (cAny P md l fl Q f (listed.setIfInBounds i true)) a w

theorem wpAny_of_cAny {md : Region.Mode} {Q : Act → World → Prop} {Q' : Exit → Act → World → Prop} (hQ : ∀ a w, Q a w → Q' .normal a w) :
    ∀ (f : Nat) (listed : Array Bool) (a : Act) (w : World), cAny P md l fl Q f listed a w → wpAny P md l Q' f listed a w
  | 0, _, _, _, h => ⟨h.1, hQ _ _ h.2⟩
  | f + 1, _, _, _, h => ⟨fun h0 => hQ _ _ (h.1 h0), fun i hi => wpOp_mono (fun a w => wpAny_of_cAny hQ f _ a w) (wpOp_of_cOp (h.2 i hi))⟩

/-- Operation k waits, over some steps, for operation i. -/
inductive Waits (md : Region.Mode) (l : Array Oper) (i : Nat) : Nat → Prop
  | step {k : Nat} {o : Oper} {e : Edge} : l[k]? = some o → e ∈ o.after → Region.binds md e = true → e.on = i → Waits md l i k
  | next {k : Nat} {o : Oper} {e : Edge} : l[k]? = some o → e ∈ o.after → Region.binds md e = true → Waits md l i e.on → Waits md l i k

/-- What is listed has all listed for which it waits. -/
def Shut (md : Region.Mode) (l : Array Oper) (listed : Array Bool) : Prop :=
  ∀ k o, l[k]? = some o → listed.getD k false = true → ∀ e ∈ o.after, Region.binds md e = true → listed.getD e.on false = true

theorem Waits.unlisted {md : Region.Mode} {i k : Nat} {listed : Array Bool} (hs : Shut md l listed) (hi : listed.getD i false = false) (h : Waits md l i k) : listed.getD k false = false := by
  induction h with
  | step hk he hb hon =>
    rename_i k o e
    cases hl : listed.getD k false with
    | false => rfl
    | true => have := hs _ _ hk hl _ he hb; rw [hon, hi] at this; cases this
  | next hk he hb _ ih =>
    rename_i k o e _
    cases hl : listed.getD k false with
    | false => rfl
    | true => have := hs _ _ hk hl _ he hb; rw [ih] at this; cases this
theorem Waits.not_ready {md : Region.Mode} {i k : Nat} {listed : Array Bool} (hs : Shut md l listed) (hi : listed.getD i false = false) (h : Waits md l i k) : k ∉ Region.ready md l listed := by
  intro hr
  obtain ⟨_, o, ho, hall⟩ := mem_ready.1 hr
  cases h with
  | step hk he hb hon =>
    rw [ho] at hk; cases hk
    have := hall _ he hb; rw [hon, hi] at this; cases this
  | next hk he hb hw =>
    rw [ho] at hk; cases hk
    have := hall _ he hb; rw [hw.unlisted hs hi] at this; cases this
theorem getD_tf {listed : Array Bool} {i : Nat} (h : listed.getD i true = false) : listed.getD i false = false := by
  rcases Nat.lt_or_ge i listed.size with h' | h'
  · simp [h'] at h ⊢; exact h
  · simp [Array.getElem?_eq_none h'] at h
theorem Shut.set {md : Region.Mode} {i : Nat} {listed : Array Bool} (hs : Shut md l listed) (hi : i ∈ Region.ready md l listed) : Shut md l (listed.setIfInBounds i true) := by
  intro k o hk hl e he hb
  by_cases hik : i = k
  · subst hik
    obtain ⟨_, o', ho, hall⟩ := mem_ready.1 hi
    rw [hk] at ho; cases ho
    exact getD_set_true (hall e he hb)
  · rw [getD_set_ne false hik] at hl
    exact getD_set_true (hs k o hk hl e he hb)

/-- For each operation the set of those for which it waits, as bits. -/
def bits (md : Region.Mode) (acc : Array Nat) (o : Oper) : Nat := o.after.toList.foldl (fun s e => if Region.binds md e then s ||| (2 ^ e.on ||| acc.getD e.on 0) else s) 0
def masks (md : Region.Mode) : List Oper → Array Nat → Array Nat
  | [], acc => acc
  | o :: os, acc => masks md os (acc.push (bits md acc o))

theorem bits_spec {md : Region.Mode} {acc : Array Nat} {i : Nat} : ∀ (es : List Edge) (s : Nat),
    (es.foldl (fun s e => if Region.binds md e then s ||| (2 ^ e.on ||| acc.getD e.on 0) else s) s).testBit i = true →
    s.testBit i = true ∨ ∃ e ∈ es, Region.binds md e = true ∧ (e.on = i ∨ (acc.getD e.on 0).testBit i = true)
  | [], s, h => .inl h
  | e :: es, s, h => by
    rw [List.foldl_cons] at h
    rcases bits_spec es _ h with h1 | ⟨e', he', hb, hh⟩
    · split at h1
      · rename_i hb
        rw [Nat.testBit_or, Nat.testBit_or, Bool.or_eq_true, Bool.or_eq_true] at h1
        rcases h1 with h1 | h1 | h1
        · exact .inl h1
        · refine .inr ⟨e, List.mem_cons_self .., hb, .inl ?_⟩
          rw [Nat.testBit_two_pow] at h1
          simpa using h1
        · exact .inr ⟨e, List.mem_cons_self .., hb, .inr h1⟩
      · exact .inl h1
    · exact .inr ⟨e', List.mem_cons_of_mem _ he', hb, hh⟩

theorem masks_spec {md : Region.Mode} {i : Nat} : ∀ (os : List Oper) (acc : Array Nat), (∀ k, l[acc.size + k]? = os[k]?) →
    (∀ k, (acc.getD k 0).testBit i = true → Waits md l i k) → ∀ k, ((masks md os acc).getD k 0).testBit i = true → Waits md l i k
  | [], _, _, h, k, hk => h k hk
  | o :: os, acc, hl, h, k, hk => by
    refine masks_spec os (acc.push (bits md acc o)) ?_ ?_ k hk
    · intro k
      have := hl (k + 1)
      rw [Array.size_push]
      simpa [Nat.add_assoc, Nat.add_comm 1 k] using this
    · intro k hk
      have h0 : l[acc.size]? = some o := by simpa using hl 0
      by_cases hlt : k < acc.size
      · refine h k ?_
        simpa [Array.getD_eq_getD_getElem?, Array.getElem?_push, Nat.ne_of_lt hlt] using hk
      · by_cases he : k = acc.size
        · subst he
          have hk' : (bits md acc o).testBit i = true := by simpa [Array.getD_eq_getD_getElem?, Array.getElem?_push] using hk
          rcases bits_spec o.after.toList 0 hk' with h1 | ⟨e, hem, hb, hh⟩
          · simp at h1
          · have hem' : e ∈ o.after := by simpa using hem
            rcases hh with hh | hh
            · exact .step h0 hem' hb hh
            · exact .next h0 hem' hb (h _ hh)
        · have : (acc.push (bits md acc o))[k]? = none := Array.getElem?_eq_none (by rw [Array.size_push]; omega)
          simp [Array.getD_eq_getD_getElem?, this] at hk

/-- An operation that may come up now may be taken first, if it may change places with each that does not wait for it. -/
theorem cAny_first {md : Region.Mode} {Q : Act → World → Prop} {i : Nat} (hsel : Region.noSelect l = true) :
    ∀ (f : Nat) (listed : Array Bool) (a : Act) (w : World), Shut md l listed →
      (∀ j oj, l[j]? = some oj → j ≠ i → listed.getD j true = false → ¬ Waits md l i j → swB P l fl i j = true) →
      i ∈ Region.ready md l listed → cOp P l fl i (cAny P md l fl Q f (listed.setIfInBounds i true)) a w → cAny P md l fl Q (f + 1) listed a w := by
  intro f
  induction f with
  | zero =>
    intro listed a w _ _ hr h
    refine ⟨fun h0 => (by rw [h0] at hr; cases hr), fun j hj => ?_⟩
    by_cases hji : j = i
    · subst hji; exact h
    · obtain ⟨a', w', hx⟩ := cOp_exists h
      have := ready_mono hj hji
      rw [hx.1] at this
      cases this
  | succ f ih =>
    intro listed a w hs hfree hr h
    refine ⟨fun h0 => (by rw [h0] at hr; cases hr), fun j hj => ?_⟩
    by_cases hji : j = i
    · subst hji; exact h
    · obtain ⟨hjun, oj, hoj, hall⟩ := mem_ready.1 hj
      obtain ⟨hiun, oi, hoi, _⟩ := mem_ready.1 hr
      have hnot : ¬ Waits md l i j := fun hw => hw.not_ready hs (getD_tf hiun) hj
      have h1 : cOp P l fl i (cOp P l fl j (cAny P md l fl Q f ((listed.setIfInBounds i true).setIfInBounds j true))) a w :=
        cOp_mono (fun a' w' hh => hh.2 j (ready_mono hj hji)) h
      have h2 := swap hoi hoj (Region.noSelect_spec hsel i oi · · hoi) (Region.noSelect_spec hsel j oj · · hoj) (hfree j oj hoj hji hjun hnot) h1
      refine cOp_mono (fun a' w' h3 => ih (listed.setIfInBounds j true) a' w' (hs.set hj) ?_ (ready_mono hr (Ne.symm hji)) ?_) h2
      · intro k ok hk hki hun hno
        refine hfree k ok hk hki ?_ hno
        by_cases hjk : j = k
        · subst hjk; exact hjun
        · rw [getD_set_ne true hjk] at hun; exact hun
      · rw [Array.setIfInBounds_comm _ _ (Ne.symm hji)] at h3
        exact h3

def frB (P : Program) (l : Array Oper) (fl : Nat → Bool) (ms : Array Nat) (listed : Array Bool) (i : Nat) : Bool :=
  (List.range l.size).all fun j => j == i || (listed.getD j true || ((ms.getD j 0).testBit i || swB P l fl i j))
def canB (P : Program) (md : Region.Mode) (l : Array Oper) (fl : Nat → Bool) (ms : Array Nat) : List Nat → Array Bool → Bool
  | [], listed => (Region.ready md l listed).isEmpty
  | i :: π, listed => (Region.ready md l listed).contains i && (frB P l fl ms listed i && canB P md l fl ms π (listed.setIfInBounds i true))
/-- The operations in the order of π. -/
def cList (P : Program) (l : Array Oper) (fl : Nat → Bool) (Q : Act → World → Prop) : List Nat → Act → World → Prop
  | [], a, w => Q a w
  | i :: π, a, w => cOp P l fl i (cList P l fl Q π) a w

theorem frB_spec {md : Region.Mode} {ms : Array Nat} (hms : ∀ i k, (ms.getD k 0).testBit i = true → Waits md l i k) {listed : Array Bool} {i : Nat} (h : frB P l fl ms listed i = true) (j : Nat) (oj : Oper) (hj : l[j]? = some oj) (hne : j ≠ i)
    (hun : listed.getD j true = false) (hno : ¬ Waits md l i j) : swB P l fl i j = true := by
  simp only [frB, List.all_eq_true, List.mem_range] at h
  have h1 := h j (Array.getElem?_eq_some_iff.1 hj).1
  simp only [Bool.or_eq_true, beq_iff_eq, hne, false_or, hun, Bool.false_eq_true] at h1
  rcases h1 with h1 | h1
  · exact absurd (hms i j h1) hno
  · exact h1

theorem cAny_of_cList {md : Region.Mode} {Q : Act → World → Prop} (hsel : Region.noSelect l = true) {ms : Array Nat} (hms : ∀ i k, (ms.getD k 0).testBit i = true → Waits md l i k) :
    ∀ (π : List Nat) (listed : Array Bool) (a : Act) (w : World), Shut md l listed →
    canB P md l fl ms π listed = true → cList P l fl Q π a w → cAny P md l fl Q π.length listed a w
  | [], _, _, _, _, hB, h => ⟨by simpa [canB] using hB, h⟩
  | i :: π, listed, a, w, hs, hB, h => by
    simp only [canB, Bool.and_eq_true] at hB
    obtain ⟨hr, hf, hB'⟩ := hB
    have hr' : i ∈ Region.ready md l listed := by simpa using hr
    exact cAny_first hsel π.length listed a w hs (frB_spec hms hf) hr' (cOp_mono (fun a w => cAny_of_cList hsel hms π _ a w (hs.set hr') hB') h)

def regB (P : Program) (l : Array Oper) (fl : Nat → Bool) (π : List Nat) : Bool :=
  Region.noSelect l && (π.length == l.size && canB P .any l fl (masks .any l.toList #[]) π (Array.replicate l.size false))

/-- A region that draws its order, walked in ONE order. -/
theorem wp_region_can {id : Nat} {Q : Exit → Act → World → Prop} {a : Act} {w : World} (fl π : List Nat) (hm : P.follows .mixedOrders = true) (hB : regB P l (fun i => fl.contains i) π = true)
    (h : cList P l (fun i => fl.contains i) (fun a w => Q .normal a w) π a w.drew) : (Code.region id l true).wp P Q a w := by
  simp only [regB, Bool.and_eq_true, beq_iff_eq] at hB
  obtain ⟨h1, h2, h3⟩ := hB
  refine wp_region_any hm ?_
  have hms : ∀ i k, ((masks .any l.toList #[]).getD k 0).testBit i = true → Waits .any l i k := fun i => masks_spec l.toList #[] (fun k => by simp) (fun k hk => by simp at hk)
  have hs : Shut .any l (Array.replicate l.size false) := fun k o _ hl => by
    exfalso
    rcases Nat.lt_or_ge k l.size with h | h
    · simp [h] at hl
    · simp [h] at hl
  have := cAny_of_cList h1 hms π _ a w.drew hs h3 h
  rw [h2] at this
  exact wpAny_of_cAny (fun _ _ h => h) _ _ _ _ this

/-- Operation number i, laid open at once. -/
def nth : List Oper → Nat → Option Oper
  | [], _ => none
  | o :: _, 0 => some o
  | _ :: l, i + 1 => nth l i
theorem nth_eq : ∀ (l : List Oper) (i : Nat), l.toArray[i]? = nth l i
  | [], i => by simp [nth]
  | o :: l, 0 => by simp [nth]
  | o :: l, i + 1 => by have := nth_eq l i; simp [nth] at this ⊢; exact this
section
variable {ls : List Oper} {Q : Act → World → Prop} {π : List Nat} {a : Act} {w : World} {i : Nat} {o : Oper}
theorem cl_nil (h : Q a w) : cList P ls.toArray fl Q [] a w := h
theorem cl_do (ho : nth ls i = some o) (hg : o.guard = none) (hf : fl i = false) (hk : okB o a.eval = true)
    (h : ∀ K : Act → World → Prop, (∀ a w, cList P ls.toArray fl Q π a w → K a w) → o.wp P a w K QF) : cList P ls.toArray fl Q (i :: π) a w := by
  unfold cList cOp
  simp only [nth_eq, ho, Region.wanted, hg, if_true]
  exact ⟨hk, h _ fun a' w' hh => ⟨(fun hx => by rw [hf] at hx; cases hx), hh⟩⟩
theorem cl_call (ho : nth ls i = some o) (hg : o.guard = none) (hk : okB o a.eval = true)
    (h : ∀ K : Act → World → Prop, (∀ a' w', Below w.heap.size w w' ∧ cList P ls.toArray fl Q π a' w' → K a' w') → o.wp P a w K QF) : cList P ls.toArray fl Q (i :: π) a w := by
  unfold cList cOp
  simp only [nth_eq, ho, Region.wanted, hg, if_true]
  exact ⟨hk, h _ fun a' w' hh => ⟨fun _ => hh.1, hh.2⟩⟩
theorem cl_skip (ho : nth ls i = some o) (hw : Region.wanted o (yielded ls.toArray a.tmps) = false) (h : cList P ls.toArray fl Q π (a.put o.dst undef) w) : cList P ls.toArray fl Q (i :: π) a w := by
  unfold cList cOp
  simp only [nth_eq, ho, hw, Bool.false_eq_true, if_false]
  exact h
theorem cl_guard {j : Nat} {b x : Bool} (ho : nth ls i = some o) (hg : o.guard = some (j, b)) (hy : yielded ls.toArray a.tmps j = some x) (hf : fl i = false) (hk : x = b → okB o a.eval = true)
    (h : x = b → ∀ K : Act → World → Prop, (∀ a w, cList P ls.toArray fl Q π a w → K a w) → o.wp P a w K QF) (h' : x = !b → cList P ls.toArray fl Q π (a.put o.dst undef) w) : cList P ls.toArray fl Q (i :: π) a w := by
  unfold cList cOp
  by_cases hx : x = b
  · subst hx
    simp only [nth_eq, ho, Region.wanted, hg, hy, beq_self_eq_true, if_true]
    exact ⟨hk rfl, h rfl _ fun a' w' hh => ⟨(fun hx => by rw [hf] at hx; cases hx), hh⟩⟩
  · have : (some x == some b) = false := by simpa using hx
    simp only [nth_eq, ho, Region.wanted, hg, hy, this, Bool.false_eq_true, if_false]
    exact h' (by cases x <;> cases b <;> simp_all)
end
end
end Go.Cz
namespace Go.Cz
open Go.RowKit
section
variable {P : Program} {ls : List Oper} {fl : Nat → Bool} {Q : Act → World → Prop} {i : Nat} {π : List Nat} {a : Act} {w : World} {o : Oper}
theorem cl_yes {j : Nat} {b : Bool} (ho : nth ls i = some o) (hg : o.guard = some (j, b)) (hy : yielded ls.toArray a.tmps j = some b) (hf : fl i = false) (hk : okB o a.eval = true)
    (h : ∀ K : Act → World → Prop, (∀ a w, cList P ls.toArray fl Q π a w → K a w) → o.wp P a w K QF) : cList P ls.toArray fl Q (i :: π) a w :=
  cl_guard ho hg hy hf (fun _ => hk) (fun _ => h) (fun hx => by cases b <;> cases hx)
theorem cl_no {j : Nat} {b : Bool} (ho : nth ls i = some o) (hg : o.guard = some (j, b)) (hy : yielded ls.toArray a.tmps j = some (!b)) (h : cList P ls.toArray fl Q π (a.put o.dst undef) w) : cList P ls.toArray fl Q (i :: π) a w :=
  cl_skip ho (by unfold Region.wanted; rw [hg]; dsimp only; rw [hy]; cases b <;> rfl) h
end
end Go.Cz
namespace Go.Cz
open Go.RowKit
section
variable {P : Program} {ls : List Oper} {fl : Nat → Bool} {Q : Act → World → Prop} {i : Nat} {π : List Nat} {a : Act} {w : World} {o : Oper}
theorem cl_ycall {j : Nat} {b : Bool} (ho : nth ls i = some o) (hg : o.guard = some (j, b)) (hy : yielded ls.toArray a.tmps j = some b) (hk : okB o a.eval = true)
    (h : ∀ K : Act → World → Prop, (∀ a' w', Below w.heap.size w w' ∧ cList P ls.toArray fl Q π a' w' → K a' w') → o.wp P a w K QF) : cList P ls.toArray fl Q (i :: π) a w := by
  unfold cList cOp
  simp only [nth_eq, ho, Region.wanted, hg, hy, beq_self_eq_true, if_true]
  exact ⟨hk, h _ fun a' w' hh => ⟨fun _ => hh.1, hh.2⟩⟩
end
end Go.Cz
namespace Go.Cz
open Go.RowKit
/-- An order, with forks. -/
inductive Plan
  | done
  | step (i : Nat) (p : Plan)
  | fork (i : Nat) (p : Plan) (j : Nat) (q : Plan)
def Plan.len : Plan → Nat
  | .done => 0
  | .step _ p => p.len + 1
  | .fork _ p _ _ => p.len + 1
section
variable {P : Program} {l : Array Oper} {fl : Nat → Bool}
def kdAt (P : Program) (l : Array Oper) (j : Nat) : Bool := match l[j]? with | some o => kd P o == 0 | none => true
def fr2B (P : Program) (l : Array Oper) (fl : Nat → Bool) (ms : Array Nat) (listed : Array Bool) (i i' : Nat) : Bool :=
  (List.range l.size).all fun j => j == i || (j == i' || (listed.getD j true || ((ms.getD j 0).testBit i || ((ms.getD j 0).testBit i' || (swB P l fl i j && kdAt P l j)))))
def canP (P : Program) (md : Region.Mode) (l : Array Oper) (fl : Nat → Bool) (ms : Array Nat) : Plan → Array Bool → Bool
  | .done, listed => (Region.ready md l listed).isEmpty
  | .step i p, listed => (Region.ready md l listed).contains i && (frB P l fl ms listed i && canP P md l fl ms p (listed.setIfInBounds i true))
  | .fork i p j q, listed => (Region.ready md l listed).contains i && ((Region.ready md l listed).contains j && (p.len == q.len && (fr2B P l fl ms listed i j && (fr2B P l fl ms listed j i && (canP P md l fl ms p (listed.setIfInBounds i true) && canP P md l fl ms q (listed.setIfInBounds j true))))))
/-- The operations in the orders of a plan. -/
def cPlan (P : Program) (l : Array Oper) (fl : Nat → Bool) (Q : Act → World → Prop) : Plan → Act → World → Prop
  | .done, a, w => Q a w
  | .step i p, a, w => cOp P l fl i (cPlan P l fl Q p) a w
  | .fork i p j q, a, w => cOp P l fl i (cPlan P l fl Q p) a w ∧ cOp P l fl j (cPlan P l fl Q q) a w
theorem cOp_and {j : Nat} {K K' : Act → World → Prop} {a : Act} {w : World} (hk : kdAt P l j = true) (h : cOp P l fl j K a w) (h' : cOp P l fl j K' a w) : cOp P l fl j (fun a w => K a w ∧ K' a w) a w := by
  unfold cOp at *
  unfold kdAt at hk
  split
  · rename_i ho; simp only [ho] at h h'; exact ⟨h, h'⟩
  · rename_i o ho
    simp only [ho] at h h' hk
    split
    · rename_i hw
      rw [if_pos hw] at h h'
      obtain ⟨v, hv, hrun⟩ := wp_run_pu (puv_exec (by simpa using hk) h.1) h.2
      obtain ⟨v', hv', hrun'⟩ := wp_run_pu (puv_exec (by simpa using hk) h.1) h'.2
      have e := hrun' w
      rw [hrun w] at e
      simp only [Result.ok.injEq, Next.value.injEq, and_true] at e
      subst e
      exact ⟨h.1, wp_of_run (hrun w) ⟨hv.1, hv.2, hv'.2⟩⟩
    · rename_i hw
      rw [if_neg hw] at h h'
      exact ⟨h, h'⟩
theorem cAny_two {md : Region.Mode} {Q : Act → World → Prop} {i i' : Nat} (hsel : Region.noSelect l = true) (hne : i ≠ i') :
    ∀ (f : Nat) (listed : Array Bool) (a : Act) (w : World), Shut md l listed →
      (∀ j oj, l[j]? = some oj → j ≠ i → j ≠ i' → listed.getD j true = false → ¬ Waits md l i j → ¬ Waits md l i' j → swB P l fl i j = true ∧ kdAt P l j = true) →
      (∀ j oj, l[j]? = some oj → j ≠ i → j ≠ i' → listed.getD j true = false → ¬ Waits md l i j → ¬ Waits md l i' j → swB P l fl i' j = true ∧ kdAt P l j = true) →
      i ∈ Region.ready md l listed → i' ∈ Region.ready md l listed →
      cOp P l fl i (cAny P md l fl Q f (listed.setIfInBounds i true)) a w → cOp P l fl i' (cAny P md l fl Q f (listed.setIfInBounds i' true)) a w → cAny P md l fl Q (f + 1) listed a w := by
  intro f
  induction f with
  | zero =>
    intro listed a w _ _ _ hr hr' h h'
    refine ⟨fun h0 => (by rw [h0] at hr; cases hr), fun j hj => ?_⟩
    by_cases hji : j = i
    · subst hji; exact h
    · obtain ⟨a', w', hx⟩ := cOp_exists h
      have := ready_mono hj hji
      rw [hx.1] at this
      cases this
  | succ f ih =>
    intro listed a w hs hfree hfree' hr hr' h h'
    refine ⟨fun h0 => (by rw [h0] at hr; cases hr), fun j hj => ?_⟩
    by_cases hji : j = i
    · subst hji; exact h
    by_cases hji' : j = i'
    · subst hji'; exact h'
    · obtain ⟨hjun, oj, hoj, hall⟩ := mem_ready.1 hj
      obtain ⟨hiun, oi, hoi, _⟩ := mem_ready.1 hr
      obtain ⟨hiun', oi', hoi', _⟩ := mem_ready.1 hr'
      have hnot : ¬ Waits md l i j := fun hw => hw.not_ready hs (getD_tf hiun) hj
      have hnot' : ¬ Waits md l i' j := fun hw => hw.not_ready hs (getD_tf hiun') hj
      have h1 : cOp P l fl i (cOp P l fl j (cAny P md l fl Q f ((listed.setIfInBounds i true).setIfInBounds j true))) a w :=
        cOp_mono (fun a' w' hh => hh.2 j (ready_mono hj hji)) h
      have h1' : cOp P l fl i' (cOp P l fl j (cAny P md l fl Q f ((listed.setIfInBounds i' true).setIfInBounds j true))) a w :=
        cOp_mono (fun a' w' hh => hh.2 j (ready_mono hj hji')) h'
      obtain ⟨hsw, hkj⟩ := hfree j oj hoj hji hji' hjun hnot hnot'
      obtain ⟨hsw', -⟩ := hfree' j oj hoj hji hji' hjun hnot hnot'
      have h2 := swap hoi hoj (Region.noSelect_spec hsel i oi · · hoi) (Region.noSelect_spec hsel j oj · · hoj) hsw h1
      have h2' := swap hoi' hoj (Region.noSelect_spec hsel i' oi' · · hoi') (Region.noSelect_spec hsel j oj · · hoj) hsw' h1'
      refine cOp_mono (fun a' w' h3 => ih (listed.setIfInBounds j true) a' w' (hs.set hj) ?_ ?_ (ready_mono hr (Ne.symm hji)) (ready_mono hr' (Ne.symm hji')) ?_ ?_) (cOp_and hkj h2 h2')
      · intro k ok hk hki hki' hun hno hno'
        refine hfree k ok hk hki hki' ?_ hno hno'
        by_cases hjk : j = k
        · subst hjk; exact hjun
        · rw [getD_set_ne true hjk] at hun; exact hun
      · intro k ok hk hki hki' hun hno hno'
        refine hfree' k ok hk hki hki' ?_ hno hno'
        by_cases hjk : j = k
        · subst hjk; exact hjun
        · rw [getD_set_ne true hjk] at hun; exact hun
      · have h4 := h3.1
        rw [Array.setIfInBounds_comm _ _ (Ne.symm hji)] at h4
        exact h4
      · have h4 := h3.2
        rw [Array.setIfInBounds_comm _ _ (Ne.symm hji')] at h4
        exact h4
theorem fr2B_spec {md : Region.Mode} {ms : Array Nat} (hms : ∀ i k, (ms.getD k 0).testBit i = true → Waits md l i k) {listed : Array Bool} {i i' : Nat} (h : fr2B P l fl ms listed i i' = true) (j : Nat) (oj : Oper) (hj : l[j]? = some oj) (hne : j ≠ i) (hne' : j ≠ i')
    (hun : listed.getD j true = false) (hno : ¬ Waits md l i j) (hno' : ¬ Waits md l i' j) : swB P l fl i j = true ∧ kdAt P l j = true := by
  simp only [fr2B, List.all_eq_true, List.mem_range] at h
  have h1 := h j (Array.getElem?_eq_some_iff.1 hj).1
  simp only [Bool.or_eq_true, beq_iff_eq, hne, hne', false_or, hun, Bool.false_eq_true, Bool.and_eq_true] at h1
  rcases h1 with h1 | h1 | h1
  · exact absurd (hms i j h1) hno
  · exact absurd (hms i' j h1) hno'
  · exact h1
theorem cAny_of_cPlan {md : Region.Mode} {Q : Act → World → Prop} (hsel : Region.noSelect l = true) {ms : Array Nat} (hms : ∀ i k, (ms.getD k 0).testBit i = true → Waits md l i k) :
    ∀ (p : Plan) (listed : Array Bool) (a : Act) (w : World), Shut md l listed → canP P md l fl ms p listed = true → cPlan P l fl Q p a w → cAny P md l fl Q p.len listed a w
  | .done, _, _, _, _, hB, h => ⟨by simpa [canP] using hB, h⟩
  | .step i p, listed, a, w, hs, hB, h => by
    simp only [canP, Bool.and_eq_true] at hB
    obtain ⟨hr, hf, hB'⟩ := hB
    have hr' : i ∈ Region.ready md l listed := by simpa using hr
    exact cAny_first hsel p.len listed a w hs (frB_spec hms hf) hr' (cOp_mono (fun a w => cAny_of_cPlan hsel hms p _ a w (hs.set hr') hB') h)
  | .fork i p j q, listed, a, w, hs, hB, h => by
    simp only [canP, Bool.and_eq_true, beq_iff_eq] at hB
    obtain ⟨hr, hr2, hlen, hf, hf2, hB1, hB2⟩ := hB
    have hr' : i ∈ Region.ready md l listed := by simpa using hr
    have hr2' : j ∈ Region.ready md l listed := by simpa using hr2
    have h2 : cOp P l fl j (cAny P md l fl Q p.len (listed.setIfInBounds j true)) a w := by rw [hlen]; exact cOp_mono (fun a w => cAny_of_cPlan hsel hms q _ a w (hs.set hr2') hB2) h.2
    by_cases hij : i = j
    · subst hij
      refine cAny_first hsel p.len listed a w hs ?_ hr' h2
      intro k ok hk hki hun hno
      exact (fr2B_spec hms hf k ok hk hki hki hun hno hno).1
    · exact cAny_two hsel hij p.len listed a w hs (fun k ok hk h1 h2 h3 h4 h5 => fr2B_spec hms hf k ok hk h1 h2 h3 h4 h5) (fun k ok hk h1 h2 h3 h4 h5 => fr2B_spec hms hf2 k ok hk h2 h1 h3 h5 h4) hr' hr2' (cOp_mono (fun a w => cAny_of_cPlan hsel hms p _ a w (hs.set hr') hB1) h.1) h2
def regP (P : Program) (l : Array Oper) (fl : Nat → Bool) (p : Plan) : Bool :=
  Region.noSelect l && (p.len == l.size && canP P .any l fl (masks .any l.toList #[]) p (Array.replicate l.size false))
/-- A region that draws its order, walked in the orders of a plan. -/
theorem wp_region_plan {id : Nat} {Q : Exit → Act → World → Prop} {a : Act} {w : World} (fl : List Nat) (p : Plan) (hm : P.follows .mixedOrders = true) (hB : regP P l (fun i => fl.contains i) p = true)
    (h : cPlan P l (fun i => fl.contains i) (fun a w => Q .normal a w) p a w.drew) : (Code.region id l true).wp P Q a w := by
  simp only [regP, Bool.and_eq_true, beq_iff_eq] at hB
  obtain ⟨h1, h2, h3⟩ := hB
  refine wp_region_any hm ?_
  have hms : ∀ i k, ((masks .any l.toList #[]).getD k 0).testBit i = true → Waits .any l i k := fun i => masks_spec l.toList #[] (fun k => by simp) (fun k hk => by simp at hk)
  have hs : Shut .any l (Array.replicate l.size false) := fun k o _ hl => by
    exfalso
    rcases Nat.lt_or_ge k l.size with h | h
    · simp [h] at hl
    · simp [h] at hl
  have := cAny_of_cPlan h1 hms p _ a w.drew hs h3 h
  rw [h2] at this
  exact wpAny_of_cAny (fun _ _ h => h) _ _ _ _ this
section
variable {ls : List Oper} {Q : Act → World → Prop} {p q : Plan} {a : Act} {w : World} {i j : Nat} {o : Oper}
theorem cp_nil (h : Q a w) : cPlan P ls.toArray fl Q .done a w := h
theorem cp_fork (h : cPlan P ls.toArray fl Q (.step i p) a w) (h' : cPlan P ls.toArray fl Q (.step j q) a w) : cPlan P ls.toArray fl Q (.fork i p j q) a w := ⟨h, h'⟩
theorem cp_do (ho : nth ls i = some o) (hg : o.guard = none) (hf : fl i = false) (hk : okB o a.eval = true)
    (h : ∀ K : Act → World → Prop, (∀ a w, cPlan P ls.toArray fl Q p a w → K a w) → o.wp P a w K QF) : cPlan P ls.toArray fl Q (.step i p) a w := by
  unfold cPlan cOp
  simp only [nth_eq, ho, Region.wanted, hg, if_true]
  exact ⟨hk, h _ fun a' w' hh => ⟨(fun hx => by rw [hf] at hx; cases hx), hh⟩⟩
theorem cp_call (ho : nth ls i = some o) (hg : o.guard = none) (hk : okB o a.eval = true)
    (h : ∀ K : Act → World → Prop, (∀ a' w', Below w.heap.size w w' ∧ cPlan P ls.toArray fl Q p a' w' → K a' w') → o.wp P a w K QF) : cPlan P ls.toArray fl Q (.step i p) a w := by
  unfold cPlan cOp
  simp only [nth_eq, ho, Region.wanted, hg, if_true]
  exact ⟨hk, h _ fun a' w' hh => ⟨fun _ => hh.1, hh.2⟩⟩
end
end
end Go.Cz
namespace Go.Cz
open Go.RowKit

/-- w' is w with new blocks, and with writes to the blocks S alone. -/
structure Mod (S : List Nat) (w w' : World) : Prop where
  os : w'.os = w.os
  tape : w'.tape = w.tape
  output : w'.output = w.output
  size : w.heap.size ≤ w'.heap.size
  block : ∀ k, k < w.heap.size → k ∉ S → w'.heap[k]? = w.heap[k]?

theorem Mod.refl (S : List Nat) (w : World) : Mod S w w := ⟨rfl, rfl, rfl, Nat.le_refl _, fun _ _ _ => rfl⟩
theorem Mod.trans {S : List Nat} {a b c : World} (h : Mod S a b) (k : Mod S b c) : Mod S a c :=
  ⟨k.os.trans h.os, k.tape.trans h.tape, k.output.trans h.output, Nat.le_trans h.size k.size, fun i hi hs => (k.block i (Nat.lt_of_lt_of_le hi h.size) hs).trans (h.block i hi hs)⟩
theorem Mod.mono {S S' : List Nat} {w w' : World} (h : Mod S w w') (hs : ∀ k ∈ S, k < w.heap.size → k ∈ S') : Mod S' w w' := ⟨h.os, h.tape, h.output, h.size, fun k hk hn => h.block k hk fun hm => hn (hs k hm hk)⟩
/-- Two steps, the second over blocks of the first's or new ones. -/
theorem Mod.then {S S' : List Nat} {a b c : World} (h : Mod S a b) (k : Mod S' b c) (hs : ∀ x ∈ S', x ∈ S ∨ a.heap.size ≤ x) : Mod S a c :=
  ⟨k.os.trans h.os, k.tape.trans h.tape, k.output.trans h.output, Nat.le_trans h.size k.size, fun i hi hn => (k.block i (Nat.lt_of_lt_of_le hi h.size) (fun hm => by rcases hs i hm with h | h; exact hn h; omega)).trans (h.block i hi hn)⟩
theorem Mod.ofBelow {w w' : World} (h : Below w.heap.size w w') (S : List Nat) : Mod S w w' := ⟨h.os, h.tape, h.output, h.size, fun k hk _ => h.block k hk⟩
theorem Mod.toBelow {w w' : World} (h : Mod [] w w') : Below w.heap.size w w' := ⟨h.os, h.tape, h.output, h.size, fun k hk => h.block k hk (by simp)⟩
theorem Mod.alloc {S : List Nat} {a w : World} (h : Mod S a w) (o : Obj) : Mod S a (w.alloc o) :=
  ⟨h.os, h.tape, h.output, by have := h.size; simp; omega, fun k hk hn => (Below.heap_alloc w o k (Nat.lt_of_lt_of_le hk h.size)).trans (h.block k hk hn)⟩
theorem Mod.drew {S : List Nat} {a w : World} (h : Mod S a w) : Mod S a w.drew := ⟨h.os, h.tape, h.output, h.size, h.block⟩
theorem Mod.setCell {S : List Nat} {a w : World} (h : Mod S a w) {p : Addr} (hp : p.block ∈ S ∨ a.heap.size ≤ p.block) (u : Value) : Mod S a (w.setCell p u) :=
  ⟨h.os, h.tape, h.output, by simpa using h.size, fun k hk hn => (Below.heap_setCell w p u k (fun e => by subst e; rcases hp with hp | hp; exact hn hp; omega)).trans (h.block k hk hn)⟩
theorem Mod.grown {S : List Nat} {a w w' : World} {row : Option Nat} (h : Mod S a w) (hg : w.grownBy w' row) (hr : ∀ k, row = some k → k ∈ S ∨ a.heap.size ≤ k) : Mod S a w' :=
  ⟨hg.os.trans h.os, hg.tape.trans h.tape, hg.output.trans h.output, Nat.le_trans h.size hg.size, fun k hk hn =>
    (hg.block k (Nat.lt_of_lt_of_le hk h.size) (fun e => by rcases hr k e.symm with h | h; exact hn h; omega)).trans (h.block k hk hn)⟩
theorem Mod.cell {S : List Nat} {w w' : World} (h : Mod S w w') {p : Addr} (hp : p.block < w.heap.size) (hn : p.block ∉ S) : w'.cell? p = w.cell? p := World.cell?_of_block (w := w) (h.block p.block hp hn)
theorem Mod.heap {S : List Nat} {w w' : World} (h : Mod S w w') {k : Nat} {o : Obj} (hk : w.heap[k]? = some o) (hn : k ∉ S) : w'.heap[k]? = some o := (h.block k (lt_of_block hk) hn).trans hk

/-- What the walk wants to know of the world behind a call that only makes memory. -/
theorem bcall {W w1 : World} (hb : Below W.heap.size W w1) : (∀ b o, b < W.heap.size → w1.cell? ⟨b, o, none⟩ = W.cell? ⟨b, o, none⟩) ∧
    (∀ b o, b < W.heap.size → w1.frozen? ⟨b, o, none⟩ = W.frozen? ⟨b, o, none⟩) ∧ (∀ n, n < W.heap.size → n < w1.heap.size) :=
  ⟨fun b o h => hb.cell (p := ⟨b, o, none⟩) h, fun b o h => hb.frozen (p := ⟨b, o, none⟩) h, fun _ h => Nat.lt_of_lt_of_le h hb.size⟩

/-- The text with these bytes. -/
def bs (l : List UInt8) : ByteArray := ⟨l.toArray⟩
theorem bs_size (l : List UInt8) : (bs l).size = l.length := by simp [bs, ByteArray.size]
theorem bs_toList (l : List UInt8) : (bs l).toList = l := ByteArray.toList_mk l
theorem bs_data (l : List UInt8) : (bs l).data.toList = l := rfl
theorem bs_extract (l : List UInt8) (a b : Nat) : (bs l).extract a b = bs ((l.drop a).take (b - a)) := ByteArray.extract_mk l a b
theorem bs_append (a b : List UInt8) : bs a ++ bs b = bs (a ++ b) := by
  apply ByteArray.ext
  simp [bs, ByteArray.data_append]
theorem bs_of (s : ByteArray) : bs s.data.toList = s := by cases s; simp [bs]
theorem eq_bs (s : ByteArray) : ∃ l, s = bs l := ⟨s.data.toList, (bs_of s).symm⟩
theorem bs_inj {a b : List UInt8} (h : bs a = bs b) : a = b := by have := congrArg (fun s : ByteArray => s.data.toList) h; simpa [bs] using this

/-- The cells of bytes. -/
def bcells (l : List UInt8) : List Value := l.map fun b => .int .u8 b.toNat
theorem length_bcells (l : List UInt8) : (bcells l).length = l.length := by simp [bcells]

section
variable {P : Program}

theorem cell_of_heap {w : World} {b i : Nat} {cs : Array Value} {t : TypeId} {fr : Nat × Nat} (h : w.heap[b]? = some (.cells cs t fr)) : w.cell? ⟨b, i, none⟩ = cs[i]? := by simp [World.cell?, h]
theorem free_of_heap {w : World} {b i : Nat} {cs : Array Value} {t : TypeId} (h : w.heap[b]? = some (.cells cs t (0, 0))) : w.frozen? ⟨b, i, none⟩ = false := by simp [World.frozen?, h]
theorem setCell_heap {w : World} {b i : Nat} {cs : Array Value} {t : TypeId} {fr : Nat × Nat} (h : w.heap[b]? = some (.cells cs t fr)) (v : Value) : (w.setCell ⟨b, i, none⟩ v).heap[b]? = some (.cells (cs.setIfInBounds i v) t fr) := by
  have hlt := lt_of_block h
  have hv : w.heap[b] = .cells cs t fr := (Array.getElem?_eq_some_iff.1 h).2
  simp [World.setCell, Array.getElem?_modify, h]
theorem setCell_heap_ne {w : World} {p : Addr} {k : Nat} (h : k ≠ p.block) (v : Value) : (w.setCell p v).heap[k]? = w.heap[k]? := Below.heap_setCell w p v k h
theorem new_heap (w : World) (o : Obj) (n : Nat) (hn : n = w.heap.size) : (w.alloc o).heap[n]? = some o := by subst hn; exact heap_alloc_new w o
theorem drew_heap (w : World) : w.drew.heap = w.heap := rfl

theorem row_form {w : World} {e : TypeId} {size n : Nat} {v : Value} {xs : List Value} (h : w.ownsRow 0 e size v (n + 1) xs) : ∃ g cap, v = .slice (some ⟨g, 0, none⟩) (n + 1) cap := by
  rcases h.2 with ⟨_, h0⟩ | ⟨g, cap, cur, hv, _⟩
  · omega
  · exact ⟨g, cap, hv⟩
/-- append(s, x) of one new block's cells to a row that is owned. -/
theorem wp_append {o : Oper} {a : Act} {K : Act → World → Prop} {Q : Exit → Act → World → Prop} {w : World} (s x : Operand) (t : TypeId)
    (ho : o.op = .call { callee := .builtin .append, args := #[s, x], argTypes := #[t, t] })
    (e : TypeId) (z : Value) (size bytes : Nat) (ht : P.underlying t = some (.slice e)) (hinfo : (P.info? e).map (fun i => (i.zero, i.size, i.bytes)) = some (some z, size, bytes))
    (hzs : z.cells.size = size) (hsz : 0 < size)
    (v : Value) (n : Nat) (xs : List Value) (hs : a.eval s = v) (hown : w.ownsRow 0 e size v n xs)
    (xb c m : Nat) (news : List Value) (hx : a.eval x = .slice (some ⟨xb, 0, none⟩) m c) (hl : news.length = m * size) (t' : TypeId) (hb : w.heap[xb]? = some (.cells news.toArray t' (0, 0))) (h1 : ∀ u ∈ news, u.oneCell' = true)
    (h63 : (n + m) * bytes ≤ 140737488355328) (h64 : n + m ≤ 140737488355328)
    (h : ∀ v' w', w'.ownsRow 0 e size v' (n + m) (xs ++ news) → w.grownBy w' v.ownBlock → (v'.ownBlock = v.ownBlock ∨ v'.ownBlock = some w.heap.size) → K (a.put o.dst v') w') : o.wp P a w K Q := by
  obtain ⟨i, hi, hz, hs1, hb1⟩ := info_parts hinfo
  have hnews : ∀ j u, news[j]? = some u → w.cell? ((⟨xb, 0, none⟩ : Addr).add j) = some u := by
    intro j u hu
    have hadd : (⟨xb, 0, none⟩ : Addr).add j = ⟨xb, j, none⟩ := by unfold Addr.add; split <;> simp_all
    rw [hadd, cell_of_heap hb]
    simpa using hu
  obtain ⟨v', w', hr, h2, h3, _, h5⟩ := run_append_own_at (P := P) w 0 t o.type e i z size bytes ht hi hz hs1 hb1 hzs hsz v n xs hown ⟨xb, 0, none⟩ m c news hl hnews h1 (by unfold maxLen; omega) h63 (Nat.zero_le _)
  unfold Oper.wp execOp
  simp only [ho, resolve, invoke, builtin, Sem.run_bind, Sem.run_pure, Result.andThen_ok, List.map_toArray, List.map_cons, List.map_nil, hs, hx, hr]
  exact h v' w' h2 h3 h5

theorem firstCells_text (size n : Nat) (l : List UInt8) (w : World) : (Builtin.firstCells size n (.string (bs l))).run P w = .ok (bcells (l.take n)).toArray w := by
  simp only [Builtin.firstCells]
  rw [bs_extract]
  simp [bs, bcells]
theorem oneCell_bcells (l : List UInt8) : ∀ v ∈ bcells l, v.oneCell' = true := by
  intro v hv
  obtain ⟨b, _, rfl⟩ := List.mem_map.1 hv
  rfl
/-- copy(dst, text) into a row of bytes. -/
theorem run_copy_text (dT sT ty e : TypeId) (hu : P.underlying dT = some (.slice e)) (hsz : (P.info? e).map (·.size) = some 1) (g off dLen dCap : Nat) (l : List UInt8) (cur : List Value) (t : TypeId) (w : World)
    (hg : w.heap[g]? = some (.cells cur.toArray t (0, 0))) (hfit : off + min l.length dLen ≤ cur.length) :
    (Builtin.copy_ #[dT, sT] ty #[.slice (some ⟨g, off, none⟩) dLen dCap, .string (bs l)]).run P w = .ok (goInt (min l.length dLen)) (w.setRow g (splice cur off (bcells (l.take dLen))).toArray) := by
  have hsz' : ∀ w, (sizeOf e).run P w = .ok 1 w := by
    intro w
    obtain ⟨i, hi, he⟩ := Option.map_eq_some_iff.1 hsz
    rw [run_sizeOf_of hi, he]
  have hmin : Nat.min l.length dLen = min l.length dLen := rfl
  have htake : l.take (min l.length dLen) = l.take dLen := by rw [List.take_eq_take_iff]; simp; omega
  have hst := run_storeCells_at (P := P) g off t (bcells (l.take dLen)) 0 cur.toArray w hg (by simp [length_bcells]; omega) (oneCell_bcells _)
  simp only [Builtin.copy_]
  simp [run_underlying hu, Builtin.lenOf, bs_size, hsz', hmin, firstCells_text, htake]
  simp at hst
  rw [hst]
  simp only [Result.andThen, splice, goInt]
  congr 2
  omega
theorem wp_copy_text {o : Oper} {a : Act} {K : Act → World → Prop} {Q : Exit → Act → World → Prop} {w : World} (d s : Operand) (dT sT : TypeId)
    (ho : o.op = .call { callee := .builtin .copy, args := #[d, s], argTypes := #[dT, sT] }) (e : TypeId) (hu : P.underlying dT = some (.slice e)) (hsz : (P.info? e).map (·.size) = some 1)
    (g off dLen dCap : Nat) (l : List UInt8) (hd : a.eval d = .slice (some ⟨g, off, none⟩) dLen dCap) (hs : a.eval s = .string (bs l)) (cur : List Value) (t : TypeId)
    (hg : w.heap[g]? = some (.cells cur.toArray t (0, 0))) (hfit : off + min l.length dLen ≤ cur.length)
    (h : ∀ w', w'.heap[g]? = some (.cells (splice cur off (bcells (l.take dLen))).toArray t (0, 0)) → Mod [g] w w' → K (a.put o.dst (goInt (min l.length dLen))) w') : o.wp P a w K Q := by
  have hr := run_copy_text (P := P) dT sT o.type e hu hsz g off dLen dCap l cur t w hg hfit
  unfold Oper.wp execOp
  simp only [ho, resolve, invoke, builtin, Sem.run_bind, Sem.run_pure, Result.andThen_ok, List.map_toArray, List.map_cons, List.map_nil, hd, hs, hr]
  exact h _ (setRow_heap w g _ _ t _ hg) ⟨rfl, rfl, rfl, by simp, fun k _ hk => setRow_other w g k _ (by simpa using hk)⟩
theorem goInt_eq (n : Int) : goInt n = .int .i64 n := rfl

theorem run_convert_text (w : World) (src e dst : TypeId) (hs : P.underlying src = some (.slice e)) (he : P.underlying e = some (.int .u8)) (hd : P.underlying dst = some .string) (g o n cap : Nat) (cur : List UInt8) (t : TypeId) (fr : Nat × Nat)
    (hg : w.heap[g]? = some (.cells (bcells cur).toArray t fr)) (hn : o + n ≤ cur.length) : (convert src dst (.slice (some ⟨g, o, none⟩) n cap)).run P w = .ok (.string (bs ((cur.drop o).take n))) w := by
  have hc : Lib.Bytes w g 0 (bs cur) := by
    intro i hi
    rw [cell_of_heap hg]
    have hi' : i < cur.length := by simpa [bs_size] using hi
    simp only [bcells, Nat.zero_add, List.getElem?_toArray, List.getElem?_map, List.getElem?_eq_getElem hi', Option.map_some]
    rfl
  have h := Lib.run_convert_window (P := P) w src e dst hs he hd g 0 (bs cur) hc o n cap (by rw [bs_size]; exact hn)
  rw [Nat.zero_add] at h
  rw [h, bs_extract, Nat.add_sub_cancel_left]
theorem wp_convert_text {o : Oper} {a : Act} {K : Act → World → Prop} {Q : Exit → Act → World → Prop} {w : World} (x : Operand) (src dst : TypeId) (ho : o.op = .convert src dst x) (e : TypeId)
    (hs : P.underlying src = some (.slice e)) (he : P.underlying e = some (.int .u8)) (hd : P.underlying dst = some .string) (g off n cap : Nat) (cur : List UInt8) (t : TypeId) (fr : Nat × Nat)
    (hx : a.eval x = .slice (some ⟨g, off, none⟩) n cap) (hg : w.heap[g]? = some (.cells (bcells cur).toArray t fr)) (hn : off + n ≤ cur.length)
    (h : K (a.put o.dst (.string (bs ((cur.drop off).take n)))) w) : o.wp P a w K Q := by
  have hr := run_convert_text (P := P) w src e dst hs he hd g off n cap cur t fr hg hn
  unfold Oper.wp execOp
  simp only [ho, Sem.run_bind, Sem.run_pure, Result.andThen_ok, hx, hr]
  exact h
theorem wp_make {o : Oper} {a : Act} {K : Act → World → Prop} {Q : Exit → Act → World → Prop} {w : World} (x y : Operand) (t : TypeId) (ho : o.op = .makeSlice t x y) (e : TypeId)
    (z : Value) (size bytes : Nat) (ht : P.underlying t = some (.slice e)) (hinfo : (P.info? e).map (fun i => (i.zero, i.size, i.bytes)) = some (some z, size, bytes)) (n c : Nat)
    (hx : a.eval x = .int .i64 n) (hy : a.eval y = .int .i64 c) (hnc : n ≤ c) (hb : bytes * c ≤ 281474976710656) (h63 : c ≤ 9223372036854775807)
    (h : K (a.put o.dst (.slice (some ⟨w.heap.size, 0, none⟩) n c)) (w.alloc (.cells (madeCells z.cells (c * size)) e))) : o.wp P a w K Q := by
  obtain ⟨i, hi, hz, hs1, hb1⟩ := info_parts hinfo
  subst hs1 hb1
  have hr := run_make (P := P) w t e i z ht hi hz .i64 .i64 n c (by omega) (by omega) (by rw [← Int.natCast_mul]; omega) (by omega)
  simp only [Int.toNat_natCast] at hr
  unfold Oper.wp execOp
  simp only [ho, Sem.run_bind, Sem.run_pure, Result.andThen_ok, hx, hy, hr]
  exact h
end
end Go.Cz
namespace Go.Proofs.YtckocgkndbdhcaaGreatDoor
open Go.RowKit Go.Cz
set_option linter.unusedVariables false
/-- A block that is known whole. -/
def Bk (W : World) (B : Nat) (cs : Array Value) (t : TypeId) : Prop := W.heap[B]? = some (.cells cs t (0, 0))
section
variable {W W' : World} {B : Nat} {cs : Array Value} {t : TypeId}
theorem Bk.lt (h : Bk W B cs t) : B < W.heap.size := lt_of_block h
theorem Bk.new (W : World) (cs : Array Value) (t : TypeId) : Bk (W.alloc (.cells cs t)) W.heap.size cs t := new_heap _ _ _ rfl
theorem Bk.alloc (h : Bk W B cs t) (o : Obj) : Bk (W.alloc o) B cs t := (Below.heap_alloc W o B h.lt).trans h
theorem Bk.below (h : Bk W B cs t) (hb : Below W.heap.size W W') : Bk W' B cs t := (hb.block B h.lt).trans h
theorem Bk.cell (h : Bk W B cs t) (i : Nat) : W.cell? ⟨B, i, none⟩ = cs[i]? := cell_of_heap h
theorem Bk.free (h : Bk W B cs t) (i : Nat) : W.frozen? ⟨B, i, none⟩ = false := free_of_heap h
theorem Bk.set (h : Bk W B cs t) (i : Nat) (v : Value) : Bk (W.setCell ⟨B, i, none⟩ v) B (cs.setIfInBounds i v) t := setCell_heap h v
theorem Bk.other (h : Bk W B cs t) {p : Addr} (hn : B ≠ p.block) (v : Value) : Bk (W.setCell p v) B cs t := (setCell_heap_ne hn v).trans h
end
end Go.Proofs.YtckocgkndbdhcaaGreatDoor
namespace Go.Cz
open Go.RowKit

/-- Something that lies in blocks, and stays while they are not written. -/
structure Piece where
  lies : World → List Nat → Prop
  lt : ∀ {w : World} {S : List Nat}, lies w S → ∀ k ∈ S, k < w.heap.size
  keep : ∀ {w w' : World} {S T : List Nat}, lies w S → Mod T w w' → (∀ k ∈ S, k ∉ T) → lies w' S
def Has (w0 w : World) : List Piece → List Nat → Prop
  | [], _ => True
  | P :: ps, U => ∃ S, P.lies w S ∧ (∀ k ∈ S, w0.heap.size ≤ k ∧ k ∉ U) ∧ Has w0 w ps (S ++ U)
/-- The pieces lie apart, in blocks that are newer than w0; what is older is as it was. -/
def Owns (w0 w : World) (ps : List Piece) : Prop := Below w0.heap.size w0 w ∧ Has w0 w ps []

theorem Has.mono {w0 w : World} : ∀ {ps : List Piece} {U V : List Nat}, Has w0 w ps U → (∀ k ∈ V, k ∈ U ∨ w.heap.size ≤ k) → Has w0 w ps V
  | [], _, _, _, _ => trivial
  | P :: ps, U, V, ⟨S, h1, h2, h3⟩, hv => ⟨S, h1, fun k hk => ⟨(h2 k hk).1, fun hx => by
      rcases hv k hx with h | h
      · exact (h2 k hk).2 h
      · have := P.lt h1 k hk; omega⟩, Has.mono (ps := ps) h3 fun k hk => by
      rcases List.mem_append.1 hk with h | h
      · exact .inl (List.mem_append.2 (.inl h))
      · rcases hv k h with h | h
        · exact .inl (List.mem_append.2 (.inr h))
        · exact .inr h⟩
theorem Has.keep {w0 w w' : World} {T : List Nat} (hm : Mod T w w') : ∀ {ps : List Piece} {U : List Nat}, Has w0 w ps U → (∀ k ∈ T, k ∈ U ∨ w.heap.size ≤ k) → Has w0 w' ps U
  | [], _, _, _ => trivial
  | P :: ps, U, ⟨S, h1, h2, h3⟩, ht => by
    have hd : ∀ k ∈ S, k ∉ T := fun k hk hx => by
      rcases ht k hx with h | h
      · exact (h2 k hk).2 h
      · have := P.lt h1 k hk; omega
    exact ⟨S, P.keep h1 hm hd, h2, Has.keep hm h3 fun k hk => by
      rcases ht k hk with h | h
      · exact .inl (List.mem_append.2 (.inr h))
      · exact .inr h⟩
theorem toBelow' {S : List Nat} {w0 w w' : World} (h : Mod S w w') (hb : Below w0.heap.size w0 w) (hS : ∀ k ∈ S, w0.heap.size ≤ k) : Below w0.heap.size w0 w' :=
  ⟨h.os.trans hb.os, h.tape.trans hb.tape, h.output.trans hb.output, Nat.le_trans hb.size h.size, fun k hk => (h.block k (Nat.lt_of_lt_of_le hk hb.size) (fun hx => by have := hS k hx; omega)).trans (hb.block k hk)⟩
theorem Owns.base {w0 w : World} {ps : List Piece} (h : Owns w0 w ps) : Below w0.heap.size w0 w := h.1
theorem Owns.start (w : World) : Owns w w [] := ⟨Below.refl _ _, trivial⟩
theorem Owns.below {w0 w w' : World} {ps : List Piece} (h : Owns w0 w ps) (hb : Below w.heap.size w w') : Owns w0 w' ps :=
  ⟨h.1.trans (hb.mono h.1.size), h.2.keep (T := []) ((Mod.ofBelow hb [])) (by simp)⟩
theorem Owns.alloc {w0 w : World} {ps : List Piece} (h : Owns w0 w ps) (o : Obj) : Owns w0 (w.alloc o) ps := h.below (by exact (Below.refl _ _).alloc (Nat.le_refl _) _)
theorem Owns.drew {w0 w : World} {ps : List Piece} (h : Owns w0 w ps) : Owns w0 w.drew ps := h.below (Below.refl _ _).drew
/-- The first piece may become another one. -/
theorem Owns.open {w0 w : World} {P : Piece} {ps : List Piece} (h : Owns w0 w (P :: ps)) : ∃ S, P.lies w S ∧ (∀ k ∈ S, w0.heap.size ≤ k) ∧
    ∀ (w' : World) (Q : Piece) (S' : List Nat), Q.lies w' S' → Mod S w w' → (∀ k ∈ S', k ∈ S ∨ w.heap.size ≤ k) → Owns w0 w' (Q :: ps) := by
  obtain ⟨hb, S, h1, h2, h3⟩ := h
  refine ⟨S, h1, fun k hk => (h2 k hk).1, fun w' Q S' h4 hm h5 => ?_⟩
  refine ⟨toBelow' hm hb fun k hk => (h2 k hk).1, S', h4, fun k hk => ⟨?_, by simp⟩, ?_⟩
  · rcases h5 k hk with h | h
    · exact (h2 k h).1
    · exact Nat.le_trans hb.size h
  · have h6 : Has w0 w ps (S ++ (S' ++ [])) := h3.mono fun k hk => by
      rcases List.mem_append.1 hk with h | h
      · exact .inl (List.mem_append.2 (.inl h))
      · rcases List.mem_append.1 h with h | h
        · rcases h5 k h with h | h
          · exact .inl (List.mem_append.2 (.inl h))
          · exact .inr h
        · simp at h
    exact (h6.keep hm fun k hk => .inl (List.mem_append.2 (.inl hk))).mono fun k hk => .inl (List.mem_append.2 (.inr hk))
/-- A new piece. -/
theorem Owns.push {w0 w w' : World} {Q : Piece} {ps : List Piece} (h : Owns w0 w ps) {S : List Nat} (hq : Q.lies w' S) (hb : Below w.heap.size w w') (hn : ∀ k ∈ S, w.heap.size ≤ k) : Owns w0 w' (Q :: ps) := by
  obtain ⟨h1, h2⟩ := h
  refine ⟨h1.trans (hb.mono h1.size), S, hq, fun k hk => ⟨Nat.le_trans h1.size (hn k hk), by simp⟩, ?_⟩
  have h3 : Has w0 w ps (S ++ []) := h2.mono fun k hk => .inr (hn k (by simpa using hk))
  exact h3.keep (T := []) (Mod.ofBelow hb []) (by simp)
theorem Owns.pop {w0 w : World} {P : Piece} {ps : List Piece} (h : Owns w0 w (P :: ps)) : Owns w0 w ps := by
  obtain ⟨h1, S, _, _, h2⟩ := h
  exact ⟨h1, h2.mono (by simp)⟩
theorem Owns.swap {w0 w : World} {P Q : Piece} {ps : List Piece} (h : Owns w0 w (P :: Q :: ps)) : Owns w0 w (Q :: P :: ps) := by
  obtain ⟨h1, S, h2, h3, S', h4, h5, h6⟩ := h
  refine ⟨h1, S', h4, fun k hk => ⟨(h5 k hk).1, by simp⟩, S, h2, fun k hk => ⟨(h3 k hk).1, fun hx => ?_⟩, h6.mono fun k hk => ?_⟩
  · have hx : k ∈ S' := by simpa using hx
    exact (h5 k hx).2 (by simpa using hk)
  · simp only [List.append_nil, List.mem_append] at hk ⊢
    exact .inl hk.symm
/-- The third piece comes first. -/
theorem Owns.rot {w0 w : World} {P Q R : Piece} {ps : List Piece} (h : Owns w0 w (P :: Q :: R :: ps)) : Owns w0 w (R :: P :: Q :: ps) := by
  have hq : Owns w0 w (Q :: R :: ps) := h.pop
  obtain ⟨h1, S, h2, h3, S', h4, h5, S2, h6, h7, h8⟩ := h
  refine ⟨h1, S2, h6, fun k hk => ⟨(h7 k hk).1, by simp⟩, S, h2, fun k hk => ⟨(h3 k hk).1, fun hx => ?_⟩, S', h4, fun k hk => ⟨(h5 k hk).1, fun hx => ?_⟩, h8.mono fun k hk => ?_⟩
  · have hx : k ∈ S2 := by simpa using hx
    exact (h7 k hx).2 (by simp [hk])
  · simp only [List.append_nil, List.mem_append] at hx
    rcases hx with hx | hx
    · exact (h5 k hk).2 (by simpa using hx)
    · exact (h7 k hx).2 (by simp [hk])
  · simp only [List.append_nil, List.mem_append] at hk ⊢
    rcases hk with h | h | h
    · exact .inl (.inr (.inl h))
    · exact .inl (.inr (.inr h))
    · exact .inl (.inl h)
theorem Has.perm {w0 w : World} {ps qs : List Piece} (h : ps.Perm qs) : ∀ {U : List Nat}, Has w0 w ps U → Has w0 w qs U := by
  induction h with
  | nil => exact fun h => h
  | cons P _ ih => exact fun ⟨S, h1, h2, h3⟩ => ⟨S, h1, h2, ih h3⟩
  | swap P Q ps =>
    rintro U ⟨S, h2, h3, S', h4, h5, h6⟩
    refine ⟨S', h4, fun k hk => ⟨(h5 k hk).1, fun hx => (h5 k hk).2 (List.mem_append.2 (.inr hx))⟩, S, h2, fun k hk => ⟨(h3 k hk).1, fun hx => ?_⟩, h6.mono fun k hk => ?_⟩
    · rcases List.mem_append.1 hx with hx | hx
      · exact (h5 k hx).2 (List.mem_append.2 (.inl hk))
      · exact (h3 k hk).2 hx
    · simp only [List.mem_append] at hk ⊢
      rcases hk with h | h | h
      · exact .inl (.inr (.inl h))
      · exact .inl (.inl h)
      · exact .inl (.inr (.inr h))
  | trans _ _ ih1 ih2 => exact fun h => ih2 (ih1 h)
theorem Owns.perm {w0 w : World} {ps qs : List Piece} (h : Owns w0 w ps) (hp : ps.Perm qs) : Owns w0 w qs := ⟨h.1, h.2.perm hp⟩
/-- The fourth piece comes first; the fifth. -/
theorem Owns.rot4 {w0 w : World} {P Q R T : Piece} {ps : List Piece} (h : Owns w0 w (P :: Q :: R :: T :: ps)) : Owns w0 w (T :: P :: Q :: R :: ps) := h.perm (List.perm_middle (l₁ := [P, Q, R]))
theorem Owns.rot5 {w0 w : World} {P Q R T V : Piece} {ps : List Piece} (h : Owns w0 w (P :: Q :: R :: T :: V :: ps)) : Owns w0 w (V :: P :: Q :: R :: T :: ps) := h.perm (List.perm_middle (l₁ := [P, Q, R, T]))
theorem Owns.first {w0 w : World} {P : Piece} {ps : List Piece} (h : Owns w0 w (P :: ps)) : ∃ S, P.lies w S ∧ ∀ k ∈ S, w0.heap.size ≤ k := by
  obtain ⟨_, S, h1, h2, _⟩ := h
  exact ⟨S, h1, fun k hk => (h2 k hk).1⟩
theorem Owns.second {w0 w : World} {P Q : Piece} {ps : List Piece} (h : Owns w0 w (P :: Q :: ps)) : ∃ S, Q.lies w S ∧ ∀ k ∈ S, w0.heap.size ≤ k := h.pop.first
/-- A block that is known whole. -/
def blk (g : Nat) (o : Obj) : Piece where
  lies w S := S = [g] ∧ w.heap[g]? = some o
  lt := by rintro w S ⟨rfl, h⟩ k hk; simp at hk; subst hk; exact lt_of_block h
  keep := by rintro w w' S T ⟨rfl, h⟩ hm hd; exact ⟨rfl, hm.heap h (hd g (by simp))⟩
theorem Owns.box {w0 w : World} {ps : List Piece} (h : Owns w0 w ps) (o : Obj) : Owns w0 (w.alloc o) (blk w.heap.size o :: ps) :=
  h.push (S := [w.heap.size]) ⟨rfl, new_heap w o _ rfl⟩ ((Below.refl _ _).alloc (Nat.le_refl _) _) (by simp)
theorem Owns.blk {w0 w : World} {ps : List Piece} {g : Nat} {o : Obj} (h : Owns w0 w (blk g o :: ps)) : w.heap[g]? = some o ∧ w0.heap.size ≤ g := by
  obtain ⟨S, ⟨rfl, h1⟩, h2⟩ := h.first
  exact ⟨h1, h2 g (by simp)⟩
/-- A store into a block that is known whole. -/
theorem Owns.store {w0 w : World} {ps : List Piece} {g i : Nat} {cs : Array Value} {t : TypeId} {fr : Nat × Nat} (h : Owns w0 w (Cz.blk g (.cells cs t fr) :: ps)) (v : Value) :
    Owns w0 (w.setCell ⟨g, i, none⟩ v) (Cz.blk g (.cells (cs.setIfInBounds i v) t fr) :: ps) := by
  obtain ⟨S, ⟨rfl, h1⟩, _, hf⟩ := h.open
  exact hf _ _ [g] ⟨rfl, setCell_heap h1 v⟩ ((Mod.refl _ _).setCell (.inl (by simp)) v) fun k hk => .inl hk
end Go.Cz
namespace Go.Cz
open Go.RowKit
structure ORow (e : TypeId) (size : Nat) (V wr : World) (v : Value) (n : Nat) (xs : List Value) : Prop where
  row : wr.ownsRow 0 e size v n xs
  new : ∀ k, v.ownBlock = some k → V.heap.size ≤ k
  below : Below V.heap.size V wr
section
variable {e : TypeId} {size : Nat} {V wr w1 w2 W : World} {v v' : Value} {n m : Nat} {xs ys : List Value}
theorem ORow.nil (hb : Below V.heap.size V wr) : ORow e size V wr (.slice none 0 0) 0 [] :=
  ⟨⟨by simp, .inl ⟨rfl, rfl⟩⟩, fun k hk => (by cases hk), hb⟩
theorem ownsRow_keep {b : Nat} (h : wr.ownsRow b e size v n xs) (hb : Below wr.heap.size wr W) : W.ownsRow b e size v n xs := by
  refine ⟨h.1, ?_⟩
  rcases h.2 with h0 | ⟨g, cap, cur, h1, h2, h3, h4⟩
  · exact .inl h0
  · exact .inr ⟨g, cap, cur, h1, h2, (hb.block g (lt_of_block h3)).trans h3, h4⟩
theorem ORow.keep (h : ORow e size V wr v n xs) (hb : Below wr.heap.size wr W) : ORow e size V W v n xs :=
  ⟨ownsRow_keep h.row hb, h.new, h.below.trans (hb.mono h.below.size)⟩
theorem ORow.step (h : ORow e size V wr v n xs) (hrow : W.ownsRow 0 e size v' m ys) (hgrow : wr.grownBy W v.ownBlock) (hblk : v'.ownBlock = v.ownBlock ∨ v'.ownBlock = some wr.heap.size) : ORow e size V W v' m ys := by
  refine ⟨hrow, fun k hk => ?_, h.below.grown hgrow h.below.size h.new⟩
  rcases hblk with e | e
  · exact h.new k (by rw [← e]; exact hk)
  · rw [e] at hk
    cases hk
    exact h.below.size
theorem ORow.form (h : ORow e size V wr v n xs) : ∃ a c, v = .slice a n c := by
  rcases h.row.2 with ⟨h1, h2⟩ | ⟨g, c, cur, h1, -⟩
  · exact ⟨none, 0, by rw [h1, h2]⟩
  · exact ⟨_, c, h1⟩
/-- Where its cells stand. -/
theorem ORow.at (h : ORow e size V wr v n xs) : (v = .slice none 0 0 ∧ n = 0) ∨ ∃ g c, v = .slice (some ⟨g, 0, none⟩) n c ∧ n ≤ c ∧ V.heap.size ≤ g ∧ g < wr.heap.size ∧ ∀ (j : Nat) (x : Value), xs[j]? = some x → wr.cell? ⟨g, j, none⟩ = some x := by
  rcases h.row.2 with h0 | ⟨g, c, cur, rfl, h2, h3, h4, h5, h6, h7⟩
  · exact .inl h0
  · refine .inr ⟨g, c, rfl, h4, h.new g rfl, lt_of_block h3, fun j x hx => ?_⟩
    rw [cell_of_heap h3]
    rw [← h7, List.getElem?_take] at hx
    split at hx
    · simpa using hx
    · cases hx
end
end Go.Cz
namespace Go.Cz
open Go.RowKit
theorem ORow.onto {e : TypeId} {size n : Nat} {V wr W : World} {v : Value} {xs : List Value} (h : ORow e size wr W v n xs) (hb : Below V.heap.size V wr) : ORow e size V W v n xs :=
  ⟨h.row, fun k hk => Nat.le_trans hb.size (h.new k hk), hb.trans (h.below.mono hb.size)⟩
section
variable {P : Program}
theorem wp_append_at {o : Oper} {a : Act} {K : Act → World → Prop} {Q : Exit → Act → World → Prop} {w : World} (s x : Operand) (t : TypeId)
    (ho : o.op = .call { callee := .builtin .append, args := #[s, x], argTypes := #[t, t] })
    (e : TypeId) (z : Value) (size bytes : Nat) (ht : P.underlying t = some (.slice e)) (hinfo : (P.info? e).map (fun i => (i.zero, i.size, i.bytes)) = some (some z, size, bytes))
    (hzs : z.cells.size = size) (hsz : 0 < size)
    (v : Value) (n : Nat) (xs : List Value) (hs : a.eval s = v) (hown : w.ownsRow 0 e size v n xs)
    (xb off c m : Nat) (news : List Value) (hx : a.eval x = .slice (some ⟨xb, off, none⟩) m c) (hl : news.length = m * size) (hb : ∀ (j : Nat) (u : Value), news[j]? = some u → w.cell? ⟨xb, off + j, none⟩ = some u) (h1 : ∀ u ∈ news, u.oneCell' = true)
    (h63 : (n + m) * bytes ≤ 140737488355328) (h64 : n + m ≤ 140737488355328)
    (h : ∀ v' w', w'.ownsRow 0 e size v' (n + m) (xs ++ news) → w.grownBy w' v.ownBlock → (v'.ownBlock = v.ownBlock ∨ v'.ownBlock = some w.heap.size) → K (a.put o.dst v') w') : o.wp P a w K Q := by
  obtain ⟨i, hi, hz, hs1, hb1⟩ := info_parts hinfo
  have hnews : ∀ j u, news[j]? = some u → w.cell? ((⟨xb, off, none⟩ : Addr).add j) = some u := by
    intro j u hu
    have hadd : (⟨xb, off, none⟩ : Addr).add j = ⟨xb, off + j, none⟩ := by unfold Addr.add; split <;> simp_all
    rw [hadd]
    exact hb j u hu
  obtain ⟨v', w', hr, h2, h3, _, h5⟩ := run_append_own_at (P := P) w 0 t o.type e i z size bytes ht hi hz hs1 hb1 hzs hsz v n xs hown ⟨xb, off, none⟩ m c news hl hnews h1 (by unfold maxLen; omega) h63 (Nat.zero_le _)
  unfold Oper.wp execOp
  simp only [ho, resolve, invoke, builtin, Sem.run_bind, Sem.run_pure, Result.andThen_ok, List.map_toArray, List.map_cons, List.map_nil, hs, hx, hr]
  exact h v' w' h2 h3 h5
end
end Go.Cz
