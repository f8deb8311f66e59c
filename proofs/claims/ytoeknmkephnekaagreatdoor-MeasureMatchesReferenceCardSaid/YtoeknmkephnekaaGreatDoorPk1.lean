/-
  Texts of this claim, put together by a program: Base, Shelf, LxA, FmModel, FmLaws, ClModel, ClLaws, WnModel, VdModel, FmToks.
-/
import Derived.Orders
import Derived.Below
import Derived.Tactics2
import Derived.WalkKit
import Derived.WalkSpells
import Derived.WalkLawsBesides
import Derived.Lib.Hide
import Derived.Maps.AppendAt
import Derived.Laws.CopyOwn
import Derived.Lib.SlBytesRow
import Derived.Shelf.LaysC
import Derived.Shelf.LaysM
import Derived.Shelf.Slices.Turned
import Derived.Shelf.Small.Strs
import Derived.Shelf.Small.Utf8
import Derived.Shelf.Strconv.Atoi
import Derived.Shelf.Strconv.AtoiAll
import Derived.Shelf.Strconv.AtoiErrFast
import Derived.Shelf.Strconv.AtoiFail
import Derived.Shelf.Strconv.AtoiInnerAll
import Derived.Shelf.Strconv.AtoiLong
import Derived.Shelf.Strconv.Clone
import Derived.Shelf.Strconv.ErrVarAll
import Derived.Shelf.Strconv.Itoa0
import Derived.Shelf.Strconv.Itoa1
import Derived.Shelf.Strconv.Itoa2
import Derived.Shelf.Strconv.Itoa3
import Derived.Shelf.Strconv.Lower
import Derived.Shelf.Strconv.ParseInt10
import Derived.Shelf.Strconv.ParseIntEmpty
import Derived.Shelf.Strconv.ParseUint10
import Derived.Shelf.Strconv.ParseUint10Any
import Derived.Shelf.Strconv.ParseUint10Empty
import Derived.Shelf.Strconv.RangeError
import Derived.Shelf.Strconv.SyntaxError
import Derived.Shelf.Strconv.ToError
import Derived.Shelf.Strconv.ToErrorRange
import Derived.Shelf.Strings.AsciiSet
import Derived.Shelf.Strings.Builder1
import Derived.Shelf.Strings.Builder2
import Derived.Shelf.Strings.BuilderF
import Derived.Shelf.Strings.IndexAny
import Derived.Shelf.Strings.IndexAnyAll
import Derived.Shelf.Strings.OnBuilder
import Derived.Shelf.Strings.Prefix
import Derived.Shelf.Strings.Runes
import Derived.Shelf.Strings.Search1
import Derived.Test.YtoeknmkephnekaaGreatDoorProg
import Derived.Deep.LoopGhost
import Derived.Deep.DeepCutAuto
import Derived.IntWalk
import Derived.Laws.Rows
import Derived.Laws.Tables
import Derived.Lib.AtoiAll
import Derived.Laws.RangeAny
import Derived.Laws.Runes
import Derived.WalkMore
import Derived.Lib.ItoaMem
set_option linter.unusedSimpArgs false
set_option linter.unusedVariables false
namespace Go.Cz
open Go.RowKit
section
variable {P : Program} {α β : Type}
def PuS (P : Program) (e : Sem α) : Prop := ∀ w a w1, e.run P w = .ok a w1 -> w1 = w /\ ∀ w', e.run P w' = .ok a w'
def StS (P : Program) (e : Sem α) : Prop := ∀ w a w1, e.run P w = .ok a w1 -> w1 = w /\ ∀ w', Below w.heap.size w w' -> e.run P w' = .ok a w'
def NoS (P : Program) (e : Sem α) : Prop := ∀ w a w1, e.run P w ≠ .ok a w1
def ExS (P : Program) (e : Sem α) : Prop := ∀ w a w1, e.run P w = .ok a w1 -> Below w.heap.size w w1
theorem PuS.st {e : Sem α} (h : PuS P e) : StS P e := fun w a w1 hr => ⟨(h w a w1 hr).1, fun w' _ => (h w a w1 hr).2 w'⟩
theorem NoS.pu {e : Sem α} (h : NoS P e) : PuS P e := fun w a w1 hr => absurd hr (h w a w1)
theorem StS.ex {e : Sem α} (h : StS P e) : ExS P e := fun w a w1 hr => by rw [(h w a w1 hr).1]; exact Below.refl _ _
theorem run_bind_ok {e : Sem α} {f : α -> Sem β} {w w1 : World} {b : β} (h : (e.bind f).run P w = .ok b w1) : ∃ a w2, e.run P w = .ok a w2 /\ (f a).run P w2 = .ok b w1 := by
 rw [show e.bind f = (e >>= f) from rfl, Sem.run_bind] at h; cases hr : e.run P w with
 | ok a w2 => rw [hr] at h; exact ⟨a, w2, rfl, h⟩
 | halt x w2 => rw [hr] at h; cases h
theorem run_bind_of {e : Sem α} {f : α -> Sem β} {w w2 : World} {a : α} (h : e.run P w = .ok a w2) : (e.bind f).run P w = (f a).run P w2 := by
 rw [show e.bind f = (e >>= f) from rfl, Sem.run_bind, h]; rfl
theorem pu_pure (a : α) : PuS P (Sem.pure a) := fun w b w1 h => by
 simp only [Sem.run, Result.ok.injEq] at h; obtain ⟨rfl, rfl⟩ := h; exact ⟨rfl, fun w' => by simp [Sem.run]⟩
theorem pu_bind {e : Sem α} {f : α -> Sem β} (h : PuS P e) (hf : ∀ a, PuS P (f a)) : PuS P (e.bind f) := fun w b w1 hr => by
 obtain ⟨a, w2, h1, h2⟩ := run_bind_ok hr; obtain ⟨rfl, h3⟩ := h w a w2 h1; obtain ⟨rfl, h4⟩ := hf a w2 b w1 h2; exact ⟨rfl, fun w' => by rw [run_bind_of (h3 w')]; exact h4 w'⟩
theorem st_bind {e : Sem α} {f : α -> Sem β} (h : StS P e) (hf : ∀ a, StS P (f a)) : StS P (e.bind f) := fun w b w1 hr => by
 obtain ⟨a, w2, h1, h2⟩ := run_bind_ok hr; obtain ⟨rfl, h3⟩ := h w a w2 h1; obtain ⟨rfl, h4⟩ := hf a w2 b w1 h2; exact ⟨rfl, fun w' hb => by rw [run_bind_of (h3 w' hb)]; exact h4 w' hb⟩
theorem ex_bind {e : Sem α} {f : α -> Sem β} (h : ExS P e) (hf : ∀ a, ExS P (f a)) : ExS P (e.bind f) := fun w b w1 hr => by
 obtain ⟨a, w2, h1, h2⟩ := run_bind_ok hr; have h3 := h w a w2 h1; exact h3.trans ((hf a w2 b w1 h2).mono h3.size)
theorem no_bind_right {e : Sem α} {f : α -> Sem β} (hf : ∀ a, NoS P (f a)) : NoS P (e.bind f) := fun w b w1 hr => by
 obtain ⟨a, w2, _, h2⟩ := run_bind_ok hr; exact hf a w2 b w1 h2
theorem no_halt (h : Halt) : NoS P (Sem.halt h : Sem α) := fun w a w1 hr => by simp [Sem.run] at hr
theorem pu_program {k : Program -> Sem α} (h : PuS P (k P)) : PuS P (Sem.program k) := fun w a w1 hr => by
 simp only [Sem.run] at hr ⊢; exact h w a w1 hr
theorem ex_new {o : Obj} {k : Nat -> Sem α} (h : ∀ n, ExS P (k n)) : ExS P (Sem.new o k) := fun w a w1 hr => by
 simp only [Sem.run] at hr; have h1 := h _ _ _ _ hr; exact ((Below.refl w.heap.size w).alloc (Nat.le_refl _) o).trans (h1.mono (by simp))
theorem Below.cell_some {w w' : World} (hb : Below w.heap.size w w') {p : Addr} {v : Value} (h : w.cell? p = some v) : w'.cell? p = some v := by
 rw [hb.cell (World.block_lt_of_cell? w p h), h]
theorem seen_same {w w' : World} {at_ : Addr} (h : w'.heap[at_.block]? = w.heap[at_.block]?) (u : TypeId) (k : Addr) (b : Bool) : w'.seen P at_ u k b = w.seen P at_ u k b := by
 unfold World.seen; rw [h]
theorem heap_none_of_ge {w : World} {k : Nat} (h : ¬ k < w.heap.size) : w.heap[k]? = none := Array.getElem?_eq_none (Nat.le_of_not_lt h)
theorem seen_none {w : World} {at_ : Addr} (hn : w.heap[at_.block]? = none) (u : TypeId) (k : Addr) (b : Bool) : ∃ e, w.seen P at_ u k b = .error e := by
 unfold World.seen; rw [hn]; simp only [bind, Except.bind]; repeat' split
 all_goals first | exact ⟨_, rfl⟩ | skip
theorem viewLoad_same {w w' : World} (hb : Below w.heap.size w w') {at_ : Addr} {u : TypeId} {p : Addr} {b : Bool} {r : Value × List Addr} (h : w.viewLoad P at_ u p b = .ok r) : w'.viewLoad P at_ u p b = .ok r := by
 by_cases hl2 : at_.block < w.heap.size
 ·have hs := seen_same (P := P) (hb.block at_.block hl2) u p b; unfold World.viewLoad at h ⊢; rw [hs]; exact h
 ·obtain ⟨e, he⟩ := seen_none (P := P) (heap_none_of_ge hl2) u p b; unfold World.viewLoad at h; rw [he] at h; simp [bind, Except.bind] at h
theorem farLoad_same {w w' : World} (hb : Below w.heap.size w w') {p : Addr} {b : Bool} {r : Value × List Addr} (h : w.farLoad P p b = .ok r) : w'.farLoad P p b = .ok r := by
 by_cases hlt : p.block < w.heap.size
 ·have he := hb.block p.block hlt; unfold World.farLoad at h ⊢; rw [he]; cases hh : w.heap[p.block]? with
  | none => rw [hh] at h; simp at h
  | some o =>
   rw [hh] at h; cases o with
   | view at_ u =>
    simp only at h ⊢; cases hv : w.viewLoad P at_ u p b with
    | ok x => rw [hv] at h; rw [viewLoad_same hb hv]; exact h
    | error e => rw [hv] at h; simp at h
   | _ => simp at h
 ·unfold World.farLoad at h; rw [heap_none_of_ge hlt] at h; simp at h
theorem st_load {m : Mode} {p : Addr} {k : Value -> Sem α} (h : ∀ v, StS P (k v)) : StS P (Sem.load m p k) := fun w a w1 hr => by
 simp only [Sem.run] at hr
 split at hr
 ·rename_i v hv; obtain ⟨rfl, h1⟩ := h v _ _ _ hr; refine ⟨rfl, fun w' hb => ?_⟩; simp only [Sem.run, Below.cell_some hb hv]; exact h1 w' hb
 ·rename_i hn
  split at hr
  ·rename_i v l hf; obtain ⟨rfl, h1⟩ := h v _ _ _ hr; refine ⟨rfl, fun w' hb => ?_⟩; have hf' := farLoad_same hb hf; have hn' : w'.cell? p = none := by
    by_cases hlt : p.block < w1.heap.size
    ·rw [hb.cell hlt, hn]
    ·exfalso
     unfold World.farLoad at hf; rw [heap_none_of_ge hlt] at hf; simp at hf
   simp only [Sem.run, hn', hf']; exact h1 w' hb
  ·cases hr
theorem pu_bind' {e : Sem α} {f : α -> Sem β} (h : PuS P e) (hf : ∀ a, PuS P (f a)) : PuS P (e >>= f) := pu_bind h hf
theorem st_bind' {e : Sem α} {f : α -> Sem β} (h : StS P e) (hf : ∀ a, StS P (f a)) : StS P (e >>= f) := st_bind h hf
theorem ex_bind' {e : Sem α} {f : α -> Sem β} (h : ExS P e) (hf : ∀ a, ExS P (f a)) : ExS P (e >>= f) := ex_bind h hf
theorem no_bind' {e : Sem α} {f : α -> Sem β} (hf : ∀ a, NoS P (f a)) : NoS P (e >>= f) := no_bind_right hf
theorem no_stuck (s : String) : NoS P (stuck s : Sem α) := no_halt _
theorem no_unsupported (u : Unsupported) : NoS P (unsupported u : Sem α) := no_halt _
theorem no_goPanic (v : Value) : NoS P (goPanic v : Sem α) := no_halt _
theorem no_runtimePanic (e : RuntimeError) : NoS P (runtimePanic e : Sem α) := by
 unfold Go.runtimePanic; refine no_bind' fun p => ?_; cases e <;> first | exact no_goPanic _ | exact no_bind' fun _ => no_goPanic _ | (refine no_bind' fun _ => no_bind' fun _ => no_goPanic _)
theorem no_boundsPanic (k : IntKind) (x y : Int) (c : BoundsCode) : NoS P (boundsPanic k x y c : Sem α) := by
 unfold Go.boundsPanic; dsimp only
 split <;> exact no_bind' fun _ => no_runtimePanic _
theorem pu_ofProgram : PuS P Go.program := pu_program (pu_pure _)
theorem pu_typeInfo (t : TypeId) : PuS P (typeInfo t) := by
 unfold Go.typeInfo; refine pu_bind' pu_ofProgram fun p => ?_
 split <;> first | exact pu_pure _ | exact (no_stuck _).pu
theorem pu_underlying (t : TypeId) : PuS P (underlying t) := by
 unfold Go.underlying; refine pu_bind' pu_ofProgram fun p => ?_
 split <;> first | exact pu_pure _ | exact (no_stuck _).pu
theorem pu_zeroValue (t : TypeId) : PuS P (zeroValue t) := by
 unfold Go.zeroValue; refine pu_bind' (pu_typeInfo t) fun p => ?_
 split <;> first | exact pu_pure _ | exact (no_unsupported _).pu
theorem pu_sizeOf (t : TypeId) : PuS P (sizeOf t) := by
 unfold Go.sizeOf; exact pu_bind' (pu_typeInfo t) fun p => pu_pure _
theorem pu_isAgg (t : TypeId) : PuS P (isAgg t) := by
 unfold Go.isAgg; refine pu_bind' (pu_underlying t) fun p => ?_
 split <;> exact pu_pure _
theorem pu_part (t : TypeId) (cs : Array Value) (off : Nat) : PuS P (part t cs off) := by
 unfold Go.part; refine pu_bind' (pu_isAgg t) fun b => ?_
 split
 ·exact pu_bind' (pu_sizeOf t) fun _ => pu_pure _
 ·split <;> first | exact pu_pure _ | exact (no_stuck _).pu
theorem pu_asBool (v : Value) : PuS P (asBool v) := by
 unfold Go.asBool
 split <;> first | exact pu_pure _ | exact (no_stuck _).pu
theorem pu_asIntOf (v : Value) : PuS P (asIntOf v) := by
 unfold Go.asIntOf
 split <;> first | exact pu_pure _ | exact (no_stuck _).pu | exact (no_unsupported _).pu
theorem pu_asAgg (v : Value) : PuS P (asAgg v) := by
 unfold Go.asAgg
 split <;> first | exact pu_pure _ | exact (no_stuck _).pu
theorem pu_sureAddr (v : Value) : PuS P (Instr.sureAddr v) := by
 unfold Instr.sureAddr
 split <;> first | exact pu_pure _ | exact (no_stuck _).pu
theorem pu_asAddr (v : Value) : PuS P (asAddr v) := by
 unfold Go.asAddr
 split <;> first | exact pu_pure _ | exact (no_stuck _).pu | exact (no_runtimePanic _).pu
theorem st_loadOne (p : Addr) : StS P (load p) := st_load fun v => (pu_pure v).st
theorem st_loadCellsFrom (a : Addr) : ∀ (n i : Nat) (acc : Array Value), StS P (loadCellsFrom a i n acc)
 | 0, _, _ => (pu_pure _).st
 | n + 1, i, _ => st_bind' (st_loadOne _) fun _ => st_loadCellsFrom a n (i + 1) _
theorem st_loadVar (t : TypeId) (p : Addr) : StS P (loadVar t p) := by
 unfold Go.loadVar; refine st_bind' (pu_isAgg t).st fun b => ?_
 split
 ·exact st_bind' (pu_sizeOf t).st fun n => st_bind' (st_loadCellsFrom p n 0 #[]) fun _ => (pu_pure _).st
 ·exact st_loadOne p
theorem st_loadAt (t : TypeId) (v : Value) : StS P (Instr.loadAt t v) := by
 unfold Instr.loadAt; exact st_bind' (pu_sureAddr v).st fun p => st_loadVar t p
theorem ex_newObj (o : Obj) : ExS P (newObj o) := ex_new fun n => (pu_pure n).st.ex
theorem ex_newRow (t : TypeId) (cs : Array Value) : ExS P (newRow t cs) := by
 unfold Go.newRow; exact ex_bind' (ex_newObj _) fun _ => (pu_pure _).st.ex
theorem ex_newVar (t : TypeId) (v : Value) : ExS P (newVar t v) := ex_newRow _ _
theorem ex_box (t : TypeId) (v : Value) : ExS P (Instr.box t v) := by
 unfold Instr.box; exact ex_bind' (ex_newVar t v) fun _ => (pu_pure _).st.ex
theorem ex_alloc (t : TypeId) : ExS P (Instr.alloc t true (.tuple #[])) := by
 unfold Instr.alloc; exact ex_bind' (pu_zeroValue t).st.ex fun z => ex_bind' (ex_newVar t z) fun _ => (pu_pure _).st.ex
theorem ex_buildSlice (t : TypeId) (len : Nat) (ps : Array (Nat × Value)) : ExS P (Instr.buildSlice t len ps) := by
 unfold Instr.buildSlice; refine ex_bind' (pu_underlying t).st.ex fun d => ?_
 split
 ·refine ex_bind' (pu_sizeOf _).st.ex fun n => ?_; dsimp only
  split
  ·exact ex_bind' (no_unsupported _).pu.st.ex fun _ => by
    split
    ·refine ex_bind' (pu_pure _).st.ex fun _ => ?_
     split
     ·exact ex_bind' (ex_newRow _ _) fun _ => (pu_pure _).st.ex
     ·exact (no_stuck _).pu.st.ex
    ·refine ex_bind' (pu_zeroValue _).st.ex fun _ => ex_bind' (pu_pure _).st.ex fun _ => ?_
     split
     ·exact ex_bind' (ex_newRow _ _) fun _ => (pu_pure _).st.ex
     ·exact (no_stuck _).pu.st.ex
  ·split
   ·refine ex_bind' (pu_pure _).st.ex fun _ => ?_
    split
    ·exact ex_bind' (ex_newRow _ _) fun _ => (pu_pure _).st.ex
    ·exact (no_stuck _).pu.st.ex
   ·refine ex_bind' (pu_zeroValue _).st.ex fun _ => ex_bind' (pu_pure _).st.ex fun _ => ?_
    split
    ·exact ex_bind' (ex_newRow _ _) fun _ => (pu_pure _).st.ex
    ·exact (no_stuck _).pu.st.ex
 ·exact (no_stuck _).pu.st.ex
def plainV : Value -> Bool
 | .bool _ | .int _ _ | .string _ => true
 | _ => false
def nilV : Value -> Bool
 | .pointer none | .slice none _ _ | .map none | .nilFunc | .nilIface => true
 | _ => false
def intV : Value -> Bool
 | .int _ _ | .slice .. | .string _ => true
 | _ => false
def funcV : Value -> Bool
 | .func .. => true
 | _ => false
def lenV : Value -> Bool
 | .slice .. | .string _ => true
 | _ => false
def eqOp : BinOp -> Bool
 | .eql | .neq => true
 | _ => false
theorem pu_intArith (op : BinOp) (k : IntKind) (x y : Int) : PuS P (Op.intArith op k x y) := by
 unfold Op.intArith
 split <;> first | exact pu_pure _ | exact (no_stuck _).pu
theorem pu_intDiv (op : BinOp) (k : IntKind) (x y : Int) : PuS P (Op.intDiv op k x y) := by
 unfold Op.intDiv
 split
 ·exact (no_runtimePanic _).pu
 ·split <;> first | exact pu_pure _ | exact (no_stuck _).pu
theorem pu_intBits (op : BinOp) (k : IntKind) (x y : Int) : PuS P (Op.intBits op k x y) := by
 unfold Op.intBits; dsimp only
 split <;> first | exact pu_pure _ | exact (no_stuck _).pu
theorem pu_intCmp (op : BinOp) (x y : Int) : PuS P (Op.intCmp op x y) := by
 unfold Op.intCmp
 split <;> first | exact pu_pure _ | exact (no_stuck _).pu
theorem pu_shift (op : BinOp) (k : IntKind) (x : Int) (k' : IntKind) (y : Int) : PuS P (Op.shift op k x k' y) := by
 unfold Op.shift
 split
 ·exact (no_runtimePanic _).pu
 ·dsimp only
  split <;> first | exact pu_pure _ | exact (no_stuck _).pu
theorem pu_stringOp (op : BinOp) (x y : ByteArray) : PuS P (Op.stringOp op x y) := by
 unfold Op.stringOp; dsimp only
 split <;> first | exact pu_pure _ | exact (no_stuck _).pu | (split <;> first | exact pu_pure _ | exact (no_unsupported _).pu)
theorem pu_unary (op : UnOp) (x : Value) : PuS P (Op.unary op x) := by
 unfold Op.unary
 split <;> first | exact pu_pure _ | exact (no_stuck _).pu | exact (no_unsupported _).pu | exact pu_intArith _ _ _ _ | exact pu_intBits _ _ _ _
theorem pu_equalIn_plain (d : Nat) (t : TypeId) (x y : Value) (hx : plainV x = true) (hy : plainV y = true) : PuS P (Op.equalIn (d + 1) t x y) := by
 unfold Op.equalIn; refine pu_bind' (pu_underlying t) fun u => ?_
 split <;> first | exact pu_pure _ | exact (no_stuck _).pu | exact (no_unsupported _).pu | (exfalso; simp [plainV] at hx hy; done) | (split <;> first | exact pu_pure _ | exact (no_stuck _).pu)
theorem pu_equalIn_nil (d : Nat) (t : TypeId) (x y : Value) (h : (nilV x || nilV y) = true) : PuS P (Op.equalIn (d + 1) t x y) := by
 unfold Op.equalIn; refine pu_bind' (pu_underlying t) fun u => ?_
 split <;> first | exact pu_pure _ | exact (no_stuck _).pu | exact (no_unsupported _).pu | (exfalso; simp [nilV] at h; done) | (split <;> first | exact pu_pure _ | exact (no_stuck _).pu) | (rename_i a b; cases a <;> cases b <;> first | exact pu_pure _ | (exfalso; simp [nilV] at h; done))
theorem pu_eqGuardIn (d : Nat) (t : TypeId) : PuS P (Op.eqGuardIn (d + 1) t .nilIface .nilIface) := by
 unfold Op.eqGuardIn; refine pu_bind' (pu_underlying t) fun u => ?_
 split <;> first | exact pu_pure _ | (exfalso; simp_all; done)
theorem pu_eqGuard (op : BinOp) (t : TypeId) (x y : Operand) (a b : Value) (h : (plainV a && plainV b || (nilV a || nilV b)) = true) : PuS P (eqGuard op t x y a b) := by
  unfold eqGuard
  split
  all_goals
    split
    · exact pu_pure _
    · split
      · repeat' split
        all_goals first
          | exact pu_pure _
          | (refine pu_bind' (pu_eqGuardIn 9999 t) fun b => ?_
             split
             · exact (no_unsupported _).pu
             · exact pu_pure _)
      · exfalso; simp [plainV, nilV] at h
      · exact pu_pure _
theorem pu_binOp_plain (op : BinOp) (t : TypeId) (a b : Value) (ha : plainV a = true) (hb : plainV b = true) : PuS P (binOp op t a b) := by
  unfold binOp
  split <;> first
    | exact pu_shift _ _ _ _ _
    | (split
       · exact (no_stuck _).pu
       · split <;> first | exact pu_intArith _ _ _ _ | exact pu_intDiv _ _ _ _ | exact pu_intBits _ _ _ _ | exact pu_intCmp _ _ _)
    | exact pu_stringOp _ _ _
    | (exact pu_bind' (pu_equalIn_plain 9999 t _ _ ha hb) fun _ => pu_pure _)
    | exact (no_stuck _).pu
    | (exfalso; simp [plainV] at ha hb; done)
theorem pu_binOp_nil (op : BinOp) (t : TypeId) (a b : Value) (ho : eqOp op = true) (h : (nilV a || nilV b) = true) : PuS P (binOp op t a b) := by
 unfold binOp
 split <;> first
  | (exact pu_bind' (pu_equalIn_nil 9999 t _ _ h) fun _ => pu_pure _)
  | (exfalso; simp [nilV] at h; done)
  | (exfalso; simp [eqOp] at ho; done)
  | exact (no_stuck _).pu
  | exact (no_unsupported _).pu
theorem pu_bindv {e : Sem α} {f : α -> Sem β} {a : α} (h : ∀ w, e.run P w = .ok a w) (hf : PuS P (f a)) : PuS P (e >>= f) := fun w b w1 hr => by
 have hr' : (f a).run P w = .ok b w1 := (run_bind_of (h w)).symm.trans hr; obtain ⟨rfl, h2⟩ := hf w b w1 hr'; exact ⟨rfl, fun w' => (run_bind_of (h w')).trans (h2 w')⟩
def fieldFine (P : Program) (s : TypeId) (f : Nat) : Bool :=
 match P.underlying s with
 | some (.struct fs) => (match fs[f]? with | some x => (match P.info? x.type with | some i => i.size != 0 | none => false) | none => false)
 | _ => false
theorem run_sizeOf_of {t : TypeId} {i : TypeInfo} (h : P.info? t = some i) (w : World) : (sizeOf t).run P w = .ok i.size w := by
 simp [sizeOf, typeInfo, h]
theorem pu_fieldAt {s : TypeId} {f : Nat} (h : fieldFine P s f = true) (x : Value) : PuS P (Instr.fieldAt s x f) := by
 unfold fieldFine at h
 split at h
 ·rename_i fs hu
  split at h
  ·rename_i fd hf
   split at h
   ·rename_i i hi; have hz : i.size ≠ 0 := by simpa using h
    unfold Instr.fieldAt; refine pu_bindv (fun w => run_underlying hu w) ?_; simp only [hf]; refine pu_bind' (pu_sureAddr _) fun a => pu_bind' ?_ fun _ => pu_pure _; unfold fieldPlace; refine pu_bindv (fun w => run_sizeOf_of hi w) ?_; rw [if_neg hz]; exact pu_pure _
   ·cases h
  ·cases h
 ·cases h
theorem pu_sliceBound (x : Value) (y : Nat) (c : BoundsCode) : PuS P (Instr.sliceBound x y c) := by
 unfold Instr.sliceBound; refine pu_bind' (pu_asIntOf x) fun p => ?_; dsimp only
 split
 ·exact pu_pure _
 ·exact (no_boundsPanic _ _ _ _).pu
theorem pu_sliceBounds (s : Bool) (l c : Nat) (lo hi mx : Option Value) : PuS P (Instr.sliceBounds s l c lo hi mx) := by
 unfold Instr.sliceBounds; dsimp only
 split
 ·refine pu_bind' (pu_sliceBound _ _ _) fun m => ?_
  split <;> first
   | (refine pu_bind' (pu_sliceBound _ _ _) fun h => ?_; split <;> first | exact pu_bind' (pu_sliceBound _ _ _) fun _ => pu_pure _ | exact pu_bind' (pu_pure _) fun _ => pu_pure _)
   | (refine pu_bind' (pu_pure _) fun h => ?_; split <;> first | exact pu_bind' (pu_sliceBound _ _ _) fun _ => pu_pure _ | exact pu_bind' (pu_pure _) fun _ => pu_pure _)
   | (refine pu_bind' (no_stuck _).pu fun h => ?_; split <;> first | exact pu_bind' (pu_sliceBound _ _ _) fun _ => pu_pure _ | exact pu_bind' (pu_pure _) fun _ => pu_pure _)
 ·refine pu_bind' (pu_pure _) fun m => ?_
  split <;> first
   | (refine pu_bind' (pu_sliceBound _ _ _) fun h => ?_; split <;> first | exact pu_bind' (pu_sliceBound _ _ _) fun _ => pu_pure _ | exact pu_bind' (pu_pure _) fun _ => pu_pure _)
   | (refine pu_bind' (pu_pure _) fun h => ?_; split <;> first | exact pu_bind' (pu_sliceBound _ _ _) fun _ => pu_pure _ | exact pu_bind' (pu_pure _) fun _ => pu_pure _)
   | (refine pu_bind' (no_stuck _).pu fun h => ?_; split <;> first | exact pu_bind' (pu_sliceBound _ _ _) fun _ => pu_pure _ | exact pu_bind' (pu_pure _) fun _ => pu_pure _)
theorem pu_slice (t : TypeId) (x : Value) (lo hi mx : Option Value) : PuS P (Instr.slice t x lo hi mx) := by
 unfold Instr.slice; refine pu_bind' (pu_underlying t) fun d => ?_
 split
 ·split
  ·exact pu_bind' (no_stuck _).pu fun _ => pu_bind' (pu_sliceBounds _ _ _ _ _ _) fun _ => pu_pure _
  ·exact pu_bind' (pu_sliceBounds _ _ _ _ _ _) fun _ => pu_pure _
 ·exact pu_bind' (pu_sliceBounds _ _ _ _ _ _) fun _ => pu_bind' (pu_sizeOf _) fun _ => pu_pure _
 ·refine pu_bind' (pu_asAddr _) fun a => pu_bind' (pu_underlying _) fun d => ?_
  split
  ·exact pu_bind' (pu_sliceBounds _ _ _ _ _ _) fun _ => pu_bind' (pu_sizeOf _) fun _ => pu_pure _
  ·exact (no_stuck _).pu
 ·exact (no_stuck _).pu
theorem pu_sliceAt (t : TypeId) (x : Value) (lo hi mx : Option Value) : PuS P (Instr.sliceAt t x lo hi mx) := by
 unfold Instr.sliceAt; refine pu_bind' (pu_underlying t) fun d => ?_
 split
 ·exact pu_bind' (pu_sureAddr _) fun a => pu_bind' (pu_sliceBounds _ _ _ _ _ _) fun _ => pu_bind' (pu_sizeOf _) fun _ => pu_pure _
 ·exact pu_slice _ _ _ _ _
theorem pu_indexAt (t : TypeId) (x i : Value) : PuS P (Instr.indexAt t x i) := by
 unfold Instr.indexAt; refine pu_bind' (pu_asIntOf i) fun p => pu_bind' (pu_underlying t) fun d => ?_; obtain ⟨k, n⟩ := p; dsimp only; have tail : ∀ (base : Option Addr) (len : Nat) (elem : TypeId) (b : Bool), PuS P (match base with
   | some a => (if 0 <= n /\ n < (len : Int) then (do pure (Value.pointer (some (a.add (n.toNat * (<- sizeOf elem)))))) else if b = true then unsupported (.noEntry "op/indexAddr.an index out of range at an array of length 0 or 1 (ledger 616)") else boundsPanic k n len .index)
   | none => boundsPanic k n 0 .index) := by
  intro base len elem b
  split
  ·split
   ·exact pu_bind' (pu_sizeOf _) fun _ => pu_pure _
   ·split
    ·exact (no_unsupported _).pu
    ·exact (no_boundsPanic _ _ _ _).pu
  ·exact (no_boundsPanic _ _ _ _).pu
 split
 ·exact pu_bind' (pu_sureAddr _) fun a => pu_bind' (pu_pure _) fun q => pu_bind' (pu_underlying t) fun d => tail _ _ _ _
 ·exact pu_bind' (pu_pure _) fun q => pu_bind' (pu_underlying t) fun d => tail _ _ _ _
 ·exact pu_bind' (no_stuck _).pu fun q => pu_bind' (pu_underlying t) fun d => tail _ _ _ _
theorem pu_index (t : TypeId) (x i : Value) : PuS P (Instr.index t x i) := by
 unfold Instr.index; refine pu_bind' (pu_asIntOf i) fun p => pu_bind' (pu_underlying t) fun d => ?_
 split
 ·split
  ·exact pu_bind' (pu_sizeOf _) fun _ => pu_part _ _ _
  ·exact (no_boundsPanic _ _ _ _).pu
 ·split
  ·exact pu_pure _
  ·exact (no_boundsPanic _ _ _ _).pu
 ·exact (no_stuck _).pu
theorem pu_field (t : TypeId) (x : Value) (f : Nat) : PuS P (Instr.field t x f) := by
 unfold Instr.field; refine pu_bind' (pu_underlying t) fun d => ?_
 split
 ·split
  ·exact pu_bind' (pu_asAgg _) fun _ => pu_part _ _ _
  ·exact (no_stuck _).pu
 ·exact (no_stuck _).pu
theorem pu_mapM {γ δ : Type} (f : γ -> Sem δ) (hf : ∀ x, PuS P (f x)) : ∀ l : List γ, PuS P (l.mapM f)
 | [] => by rw [List.mapM_nil]; exact pu_pure _
 | x :: l => by rw [List.mapM_cons]; exact pu_bind' (hf x) fun _ => pu_bind' (pu_mapM f hf l) fun _ => pu_pure _
theorem pu_build (t : TypeId) (ps : Array (Nat × Value)) : PuS P (Instr.build t ps) := by
 unfold Instr.build; refine pu_bind' (pu_zeroValue t) fun z => ?_; refine pu_bind' (pu_underlying t) fun d => ?_
 split
 ·refine pu_bind' ?_ fun pl => ?_
  ·rw [Array.mapM_eq_mapM_toList]; exact pu_bind' (pu_mapM _ (fun f => pu_bind' (pu_sizeOf _) fun _ => pu_pure _) _) fun _ => pu_pure _
  ·split
   ·exact pu_pure _
   ·exact (no_stuck _).pu
 ·refine pu_bind' (pu_sizeOf _) fun n => ?_
  split
  ·exact pu_pure _
  ·exact (no_stuck _).pu
 ·exact (no_stuck _).pu
theorem pu_extract (v : Value) (i : Nat) : PuS P (Instr.extract v i) := by
 unfold Instr.extract
 split
 ·split
  ·exact pu_pure _
  ·exact (no_stuck _).pu
 ·exact (no_stuck _).pu
theorem pu_makeInterface (t : TypeId) (v : Value) : PuS P (Instr.makeInterface t v) := by
 unfold Instr.makeInterface; refine pu_bind' (pu_underlying t) fun d => ?_
 split
 ·exact (no_stuck _).pu
 ·exact pu_pure _
theorem pu_convert_int {s d : TypeId} {k k0 : IntKind} (hs : P.underlying s = some (.int k0)) (hd : P.underlying d = some (.int k)) (x : Value) (hx : intV x = true) : PuS P (convert s d x) := by
 unfold convert; refine pu_bindv (fun w => run_underlying hs w) (pu_bindv (fun w => run_underlying hd w) ?_); cases x <;> simp [intV] at hx
 all_goals split <;> first | exact pu_pure _ | (exfalso; simp_all; done) | exact (no_stuck _).pu | exact (no_unsupported _).pu
theorem pu_min2 (x y : Value) (hx : plainV x = true) (hy : plainV y = true) : PuS P (Builtin.min2 x y) := by
 unfold Builtin.min2
 split <;> first | exact pu_pure _ | (exfalso; simp [plainV] at hx hy; done) | exact (no_stuck _).pu | exact pu_bind' (pu_stringOp _ _ _) fun _ => pu_bind' (pu_asBool _) fun _ => pu_pure _
theorem pu_max2 (x y : Value) (hx : plainV x = true) (hy : plainV y = true) : PuS P (Builtin.max2 x y) := by
 unfold Builtin.max2
 split <;> first | exact pu_pure _ | (exfalso; simp [plainV] at hx hy; done) | exact (no_stuck _).pu | exact pu_bind' (pu_stringOp _ _ _) fun _ => pu_bind' (pu_asBool _) fun _ => pu_pure _
theorem pu_min (ts : Array TypeId) (t : TypeId) (x y : Value) (hx : plainV x = true) (hy : plainV y = true) : PuS P (Builtin.min_ ts t #[x, y]) := by
 unfold Builtin.min_; simp only [List.foldlM_cons, List.foldlM_nil]; exact pu_bind' (pu_min2 x y hx hy) fun _ => pu_pure _
theorem pu_max (ts : Array TypeId) (t : TypeId) (x y : Value) (hx : plainV x = true) (hy : plainV y = true) : PuS P (Builtin.max_ ts t #[x, y]) := by
 unfold Builtin.max_; simp only [List.foldlM_cons, List.foldlM_nil]; exact pu_bind' (pu_max2 x y hx hy) fun _ => pu_pure _
theorem pu_len (ts : Array TypeId) (t : TypeId) (x : Value) (hx : lenV x = true) : PuS P (Builtin.len_ ts t #[x]) := by
 unfold Builtin.len_; cases x <;> simp [lenV] at hx
 all_goals
  simp only [List.getElem?_toArray, List.getElem?_cons_zero]
  split
  ·rename_i h; simp only [Prod.mk.injEq, Option.some.injEq] at h; obtain ⟨_, rfl⟩ := h; refine pu_bind' (pu_underlying _) fun d => ?_
   split <;> first | exact pu_pure _ | (exfalso; simp_all; done) | exact (no_stuck _).pu | (refine pu_bind' (pu_underlying _) fun d => ?_; split <;> first | exact pu_pure _ | exact (no_stuck _).pu)
  ·exact (no_stuck _).pu
def kd (P : Program) (o : Oper) : Nat :=
 match o.op with
 | .move _ | .assign _ | .pick .. | .nilCheck _ | .binOp .. | .unOp .. | .build .. | .extract .. | .field .. | .indexAddr .. | .index .. | .slice .. | .makeInterface .. => 0
 | .fieldAddr s _ f => if fieldFine P s f then 0 else 4
 | .convert s d _ => (match P.underlying s, P.underlying d with | some (.int _), some (.int _) => 0 | _, _ => 4)
 | .load .. => 1
 | .alloc _ | .box .. | .buildSlice .. => 2
 | .call c => (match c.callee with
  | .builtin .len => if c.args.size = 1 then 0 else 4
  | .builtin .min | .builtin .max => if c.args.size = 2 then 0 else 4
  | .value _ => 3
  | _ => 4)
 | _ => 4
def okB (o : Oper) (ρ : Operand -> Value) : Bool :=
 match o.op with
 | .nilCheck x => !funcV (ρ x)
 | .binOp op _ x y _ => plainV (ρ x) && plainV (ρ y) || (eqOp op && (nilV (ρ x) || nilV (ρ y)))
 | .convert _ _ x => intV (ρ x)
 | .call c => (match c.callee with
  | .builtin .len => (c.args.map ρ).all lenV
  | .builtin .min | .builtin .max => (c.args.map ρ).all plainV
  | _ => true)
 | _ => true
def PuV (P : Program) (e : Sem Next) : Prop := ∀ w n w1, e.run P w = .ok n w1 -> w1 = w /\ ∃ v, n = .value v /\ ∀ w', e.run P w' = .ok (.value v) w'
def StV (P : Program) (e : Sem Next) : Prop := ∀ w n w1, e.run P w = .ok n w1 -> w1 = w /\ ∃ v, n = .value v /\ ∀ w', Below w.heap.size w w' -> e.run P w' = .ok (.value v) w'
def ExV (P : Program) (e : Sem Next) : Prop := ∀ w n w1, e.run P w = .ok n w1 -> Below w.heap.size w w1 /\ ∃ v, n = .value v
theorem run_value {e : Sem Value} {w w1 : World} {n : Next} (h : (do pure (.value (<- e)) : Sem Next).run P w = .ok n w1) : ∃ v, n = .value v /\ e.run P w = .ok v w1 := by
 obtain ⟨a, w2, h1, h2⟩ := run_bind_ok h; simp only [pure, Sem.run, Result.ok.injEq] at h2; obtain ⟨rfl, rfl⟩ := h2; exact ⟨a, rfl, h1⟩
theorem run_value_of {e : Sem Value} {w w1 : World} {v : Value} (h : e.run P w = .ok v w1) : (do pure (.value (<- e)) : Sem Next).run P w = .ok (.value v) w1 := by
 refine (run_bind_of h).trans ?_; simp [pure]
theorem puv_of {e : Sem Value} (h : PuS P e) : PuV P (do pure (.value (<- e))) := fun w n w1 hr => by
 obtain ⟨v, rfl, h1⟩ := run_value hr; obtain ⟨rfl, h2⟩ := h w v w1 h1; exact ⟨rfl, v, rfl, fun w' => run_value_of (h2 w')⟩
theorem stv_of {e : Sem Value} (h : StS P e) : StV P (do pure (.value (<- e))) := fun w n w1 hr => by
 obtain ⟨v, rfl, h1⟩ := run_value hr; obtain ⟨rfl, h2⟩ := h w v w1 h1; exact ⟨rfl, v, rfl, fun w' hb => run_value_of (h2 w' hb)⟩
theorem exv_of {e : Sem Value} (h : ExS P e) : ExV P (do pure (.value (<- e))) := fun w n w1 hr => by
 obtain ⟨v, rfl, h1⟩ := run_value hr; exact ⟨h w v w1 h1, v, rfl⟩
theorem puv_pure (v : Value) : PuV P (pure (.value v)) := fun w n w1 hr => by
 simp only [pure, Sem.run, Result.ok.injEq] at hr; obtain ⟨rfl, rfl⟩ := hr; exact ⟨rfl, v, rfl, fun w' => by simp [pure]⟩
theorem puv_no {e : Sem Next} (h : NoS P e) : PuV P e := fun w n w1 hr => absurd hr (h w n w1)
theorem puv_bind {e : Sem α} {f : α -> Sem Next} (h : PuS P e) (hf : ∀ a, PuV P (f a)) : PuV P (e >>= f) := fun w n w1 hr => by
 obtain ⟨a, w2, h1, h2⟩ := run_bind_ok hr; obtain ⟨rfl, h3⟩ := h w a w2 h1; obtain ⟨rfl, v, rfl, h4⟩ := hf a w2 n w1 h2; exact ⟨rfl, v, rfl, fun w' => (run_bind_of (h3 w')).trans (h4 w')⟩
theorem size1 {γ : Type} {xs : Array γ} (h : xs.size = 1) : ∃ x, xs = #[x] := by
 obtain ⟨l⟩ := xs
 match l, h with
 | [x], _ => exact ⟨x, rfl⟩
theorem size2 {γ : Type} {xs : Array γ} (h : xs.size = 2) : ∃ x y, xs = #[x, y] := by
 obtain ⟨l⟩ := xs
 match l, h with
 | [x, y], _ => exact ⟨x, y, rfl⟩
theorem puv_exec {o : Oper} {ρ : Operand -> Value} (hk : kd P o = 0) (hb : okB o ρ = true) : PuV P (execOp ρ o) := by
 obtain ⟨dst, op, type, pos, after, guard⟩ := o; unfold execOp; dsimp only; cases op <;> dsimp only [kd, okB] at hk hb ⊢ <;> try (exfalso; revert hk; decide)
 case move x => exact puv_pure _
 case assign x => exact puv_pure _
 case pick c a b => exact puv_bind (pu_asBool _) fun _ => puv_pure _
 case nilCheck x =>
  split
  ·exact puv_no (no_runtimePanic _)
  ·exact puv_no (no_runtimePanic _)
  ·exact puv_no (no_runtimePanic _)
  ·rename_i h; rw [h] at hb; simp [funcV] at hb
  ·exact puv_pure _
 case binOp op t x y t' =>
  refine puv_of (pu_bind' (pu_eqGuard _ _ _ _ _ _ ?_) fun _ => ?_)
  ·revert hb
   cases plainV (ρ x) <;> cases plainV (ρ y) <;> cases eqOp op <;> cases nilV (ρ x) <;> cases nilV (ρ y) <;> simp
  ·by_cases h : (plainV (ρ x) && plainV (ρ y)) = true
   ·simp only [Bool.and_eq_true] at h; exact pu_binOp_plain _ _ _ _ h.1 h.2
   ·simp only [h, Bool.false_or, Bool.and_eq_true] at hb; exact pu_binOp_nil _ _ _ _ hb.1 hb.2
 case unOp op t x => exact puv_of (pu_unary _ _)
 case build t ps => exact puv_of (pu_build _ _)
 case extract t i => exact puv_of (pu_extract _ _)
 case field t x f => exact puv_of (pu_field _ _ _)
 case indexAddr t x i => exact puv_of (pu_indexAt _ _ _)
 case index t x i => exact puv_of (pu_index _ _ _)
 case slice t x lo hi mx => exact puv_of (pu_sliceAt _ _ _ _ _)
 case makeInterface t x => exact puv_of (pu_makeInterface _ _)
 case fieldAddr s x f =>
  by_cases h : fieldFine P s f = true
  ·exact puv_of (pu_fieldAt h _)
  ·simp [h] at hk
 case convert s d x =>
  split at hk
  ·rename_i k0 k hs hd; exact puv_of (pu_convert_int hs hd _ hb)
  ·cases hk
 case call c =>
  obtain ⟨callee, args, argTypes⟩ := c; cases callee <;> dsimp only at hk hb ⊢ <;> try (exfalso; revert hk; decide)
  rename_i b; cases b <;> dsimp only at hk hb ⊢ <;> try (exfalso; revert hk; decide)
  case len =>
   split at hk
   ·rename_i hs; obtain ⟨x, rfl⟩ := size1 hs; have e : Array.map ρ #[x] = #[ρ x] := by simp
    have hb' : lenV (ρ x) = true := by simpa using hb
    have h := puv_of (pu_len (P := P) argTypes type (ρ x) hb'); rw [<- e] at h; exact h
   ·cases hk
  case max =>
   split at hk
   ·rename_i hs; obtain ⟨x, y, rfl⟩ := size2 hs; have hb' : plainV (ρ x) = true /\ plainV (ρ y) = true := by simpa using hb
    have e : Array.map ρ #[x, y] = #[ρ x, ρ y] := by simp
    have h := puv_of (pu_max (P := P) argTypes type (ρ x) (ρ y) hb'.1 hb'.2); rw [<- e] at h; exact h
   ·cases hk
  case min =>
   split at hk
   ·rename_i hs; obtain ⟨x, y, rfl⟩ := size2 hs; have hb' : plainV (ρ x) = true /\ plainV (ρ y) = true := by simpa using hb
    have e : Array.map ρ #[x, y] = #[ρ x, ρ y] := by simp
    have h := puv_of (pu_min (P := P) argTypes type (ρ x) (ρ y) hb'.1 hb'.2); rw [<- e] at h; exact h
   ·cases hk
theorem stv_exec {o : Oper} {ρ : Operand -> Value} (hk : kd P o = 1) : StV P (execOp ρ o) := by
 obtain ⟨dst, op, type, pos, after, guard⟩ := o; unfold execOp; dsimp only; cases op <;> dsimp only [kd] at hk ⊢ <;> try (exfalso; revert hk; decide)
 case load t x => exact stv_of (st_loadAt _ _)
 case fieldAddr s x f => split at hk <;> cases hk
 case convert s d x => split at hk <;> cases hk
 case call c =>
  exfalso; revert hk
  split <;> (try split) <;> simp
theorem exv_exec {o : Oper} {ρ : Operand -> Value} (hk : kd P o = 2) : ExV P (execOp ρ o) := by
 obtain ⟨dst, op, type, pos, after, guard⟩ := o; unfold execOp; dsimp only; cases op <;> dsimp only [kd] at hk ⊢ <;> try (exfalso; revert hk; decide)
 case alloc t => exact exv_of (ex_alloc _)
 case box t x => exact exv_of (ex_box _ _)
 case buildSlice t n ps => exact exv_of (ex_buildSlice _ _ _)
 case fieldAddr s x f => split at hk <;> cases hk
 case convert s d x => split at hk <;> cases hk
 case call c =>
  exfalso; revert hk
  split <;> (try split) <;> simp
end
section
variable {P : Program} {l : Array Oper} {fl : Nat -> Bool}
def QF : Exit -> Act -> World -> Prop := fun _ _ _ => False
theorem not_letsOut_QF : ¬ LetsOut QF := fun ⟨_, _, h⟩ => h
def cOp (P : Program) (l : Array Oper) (fl : Nat -> Bool) (i : Nat) (K : Act -> World -> Prop) (a : Act) (w : World) : Prop :=
 match l[i]? with
 | none => K a w
 | some o => if Region.wanted o (yielded l a.tmps) = true then okB o a.eval = true /\ o.wp P a w (fun a' w' => (fl i = true -> Below w.heap.size w w') /\ K a' w') QF else K (a.put o.dst undef) w
theorem cOp_mono {i : Nat} {K K' : Act -> World -> Prop} (h : ∀ a w, K a w -> K' a w) {a : Act} {w : World} (hh : cOp P l fl i K a w) : cOp P l fl i K' a w := by
 unfold cOp at *
 split
 ·rename_i ho; simp only [ho] at hh; exact h _ _ hh
 ·rename_i o ho; simp only [ho] at hh
  split
  ·rename_i hw; rw [if_pos hw] at hh; exact ⟨hh.1, Oper.wp_mono (fun a w hk => ⟨hk.1, h _ _ hk.2⟩) hh.2⟩
  ·rename_i hw; rw [if_neg hw] at hh; exact h _ _ hh
theorem wpOp_of_cOp {i : Nat} {K : Act -> World -> Prop} {Q : Exit -> Act -> World -> Prop} {a : Act} {w : World} (h : cOp P l fl i K a w) : wpOp P l Q i K a w := by
 unfold cOp at h; unfold wpOp
 split
 ·rename_i ho; simp only [ho] at h; exact h
 ·rename_i o ho; simp only [ho] at h
  split
  ·rename_i hw; rw [if_pos hw] at h; refine .inl ?_; have h2 := h.2; unfold Oper.wp at h2 ⊢; generalize (execOp a.eval o).run P w = r at *; cases r with
   | ok n w' =>
    cases n <;> simp only [Oper.upon] at h2 ⊢
    case value u => exact h2.2
    case skip => exact h2.2
    case defer d => exact h2.2
    case enter f args =>
     refine Calls.mono h2 fun e w'' he => ?_; cases e with
     | returned u => exact he.2
     | panicked c => exact he.elim
     | outgrown => exact (not_letsOut_QF he).elim
    case row r args => exact Rows.mono h2 fun _ _ he => he.2
   | halt x w' => cases x <;> simp only [Oper.upon] at h2; exact h2.elim
  ·rename_i hw; rw [if_neg hw] at h; exact h
theorem wp_exists {o : Oper} {a : Act} {w : World} {K : Act -> World -> Prop} (h : o.wp P a w K QF) : ∃ u ds w', K { (a.put o.dst u) with defers := ds } w' := by
 unfold Oper.wp at h; generalize (execOp a.eval o).run P w = r at *; cases r with
 | ok n w' =>
  cases n <;> simp only [Oper.upon] at h
  case value u => exact ⟨u, a.defers, w', by cases ho : o.dst <;> simpa [Act.put, ho] using h⟩
  case skip => exact ⟨undef, a.defers, w', by cases ho : o.dst <;> simpa [Act.put, ho] using h⟩
  case defer d => exact ⟨undef, d :: a.defers, w', by cases ho : o.dst <;> simpa [Act.put, ho] using h⟩
  case enter f args =>
   obtain ⟨e, w'', fr, he, _⟩ := h []; cases e with
   | returned u => exact ⟨u, a.defers, w'', by cases ho : o.dst <;> simpa [Act.put, ho] using he⟩
   | panicked c => exact he.elim
   | outgrown => exact (not_letsOut_QF he).elim
  case row r args =>
   obtain ⟨u, w'', he, _⟩ := h default []; exact ⟨u, a.defers, w'', by cases ho : o.dst <;> simpa [Act.put, ho] using he⟩
 | halt x w' => cases x <;> simp only [Oper.upon] at h; exact h.elim
theorem eval_defers (a : Act) (ds : List Deferred) : ({ a with defers := ds } : Act).eval = a.eval := by
 funext x; cases x <;> rfl
theorem okB_put {o : Oper} {d : Option Tmp} {v : Value} (h1 : ∀ t, d = some t -> t ∉ o.looksAt l) (a : Act) : okB o (a.put d v).eval = okB o a.eval := by
 have e : ∀ x ∈ o.op.operands, (a.put d v).eval x = a.eval x := fun x hx => Act.eval_put fun t ht hxt => h1 t ht (by
  subst hxt; exact List.mem_append_left _ (List.mem_filterMap.2 ⟨.tmp t, by simpa using hx, rfl⟩))
 obtain ⟨dst, op, type, pos, after, guard⟩ := o; dsimp only at e; unfold okB; cases op <;> simp only [Op.operands] at e ⊢ <;> try rfl
 case nilCheck x => rw [e x (by simp)]
 case binOp op t x y t' => rw [e x (by simp), e y (by simp)]
 case convert s d x => rw [e x (by simp)]
 case call c =>
  have em : Array.map (a.put d v).eval c.args = Array.map a.eval c.args := Array.map_congr_left fun x hx => e x (by simp [Call.operands, hx]); rw [em]
theorem wp_put' {o : Oper} (hs : ∀ cs b, o.op ≠ .select cs b) {d : Option Tmp} {v : Value} (h1 : ∀ t, d = some t -> t ∉ o.looksAt l) (h2 : ∀ t, d = some t -> o.dst ≠ some t)
  {a : Act} {w : World} {K K' : Act -> World -> Prop} (h : o.wp P a w K QF)
  (hK : ∀ u ds w', K { (a.put o.dst u) with defers := ds } w' -> K' (({ (a.put o.dst u) with defers := ds } : Act).put d v) w') : o.wp P (a.put d v) w K' QF := by
 have h2' : ∀ t, o.dst = some t -> d ≠ some t := fun t ht hd => h2 t hd ht; have same : ∀ u, ({ (a.put o.dst u) with defers := a.defers } : Act) = a.put o.dst u := fun u => by cases o.dst <;> rfl
 have same' : ∀ u ds, ({ (a.put o.dst u) with defers := ds } : Act) = ({ a with defers := ds } : Act).put o.dst u := fun u ds => by cases o.dst <;> rfl
 unfold Oper.wp at *; rw [execOp_put o hs a d v h1]; generalize (execOp a.eval o).run P w = r at *; cases r with
 | ok n w' =>
  cases n <;> simp only [Oper.upon] at h ⊢
  case value u => rw [<- Act.put_comm a u v h2', <- same u]; exact hK _ _ _ (by rw [same]; exact h)
  case skip => rw [<- Act.put_comm a undef v h2', <- same undef]; exact hK _ _ _ (by rw [same]; exact h)
  case defer d' =>
   rw [Act.put_defers, <- Act.put_comm _ undef v h2', <- same']; exact hK _ _ _ (by rw [same']; exact h)
  case enter f args =>
   refine Calls.mono h fun e w'' he => ?_; cases e with
   | returned u => show K' ((a.put d v).put o.dst u) w''; rw [<- Act.put_comm a u v h2', <- same u]; exact hK _ _ _ (by rw [same]; exact he)
   | panicked c => exact he.elim
   | outgrown => exact (not_letsOut_QF he).elim
  case row r args => exact Rows.mono h fun u w'' he => by rw [<- Act.put_comm a u v h2', <- same u]; exact hK _ _ _ (by rw [same]; exact he)
 | halt x w' => cases x <;> simp only [Oper.upon] at h ⊢; exact h
theorem wp_unput {o : Oper} (hs : ∀ cs b, o.op ≠ .select cs b) {d : Option Tmp} {v : Value} (h1 : ∀ t, d = some t -> t ∉ o.looksAt l) (h2 : ∀ t, d = some t -> o.dst ≠ some t)
  {a : Act} {w : World} {K K' : Act -> World -> Prop} (h : o.wp P (a.put d v) w K QF)
  (hK : ∀ u ds w', K (({ (a.put o.dst u) with defers := ds } : Act).put d v) w' -> K' { (a.put o.dst u) with defers := ds } w') : o.wp P a w K' QF := by
 have h2' : ∀ t, o.dst = some t -> d ≠ some t := fun t ht hd => h2 t hd ht; have same : ∀ u, ({ (a.put o.dst u) with defers := a.defers } : Act) = a.put o.dst u := fun u => by cases o.dst <;> rfl
 have same' : ∀ u ds, ({ (a.put o.dst u) with defers := ds } : Act) = ({ a with defers := ds } : Act).put o.dst u := fun u ds => by cases o.dst <;> rfl
 unfold Oper.wp at *; rw [execOp_put o hs a d v h1] at h; generalize (execOp a.eval o).run P w = r at *; cases r with
 | ok n w' =>
  cases n <;> simp only [Oper.upon] at h ⊢
  case value u => rw [<- Act.put_comm a u v h2'] at h; rw [<- same u]; exact hK _ _ _ (by rw [same]; exact h)
  case skip => rw [<- Act.put_comm a undef v h2'] at h; rw [<- same undef]; exact hK _ _ _ (by rw [same]; exact h)
  case defer d' =>
   rw [Act.put_defers, <- Act.put_comm _ undef v h2'] at h; rw [<- same']; exact hK _ _ _ (by rw [same']; exact h)
  case enter f args =>
   refine Calls.mono h fun e w'' he => ?_; cases e with
   | returned u =>
    have he' : K ((a.put d v).put o.dst u) w'' := he; rw [<- Act.put_comm a u v h2'] at he'; show K' (a.put o.dst u) w''; rw [<- same u]; exact hK _ _ _ (by rw [same]; exact he')
   | panicked c => exact he.elim
   | outgrown => exact (not_letsOut_QF he).elim
  case row r args => exact Rows.mono h fun u w'' he => by rw [<- Act.put_comm a u v h2'] at he; rw [<- same u]; exact hK _ _ _ (by rw [same]; exact he)
 | halt x w' => cases x <;> simp only [Oper.upon] at h ⊢; exact h
theorem StV.ex {e : Sem Next} (h : StV P e) : ExV P e := fun w n w1 hr => by
 obtain ⟨rfl, v, rfl, _⟩ := h w n w1 hr; exact ⟨Below.refl _ _, v, rfl⟩
theorem PuV.st {e : Sem Next} (h : PuV P e) : StV P e := fun w n w1 hr => by
 obtain ⟨rfl, v, rfl, h⟩ := h w n w1 hr; exact ⟨rfl, v, rfl, fun w' _ => h w'⟩
theorem wp_run_st {o : Oper} {a : Act} {w : World} {K : Act -> World -> Prop} (he : StV P (execOp a.eval o)) (h : o.wp P a w K QF) :
  ∃ v, K (a.put o.dst v) w /\ ∀ w', Below w.heap.size w w' -> (execOp a.eval o).run P w' = .ok (.value v) w' := by
 unfold Oper.wp at h; cases hr : (execOp a.eval o).run P w with
 | ok n w1 =>
  obtain ⟨rfl, v, rfl, hs⟩ := he w n w1 hr; rw [hr] at h; exact ⟨v, h, hs⟩
 | halt x w1 => rw [hr] at h; cases x <;> simp only [Oper.upon] at h; exact h.elim
theorem wp_run_pu {o : Oper} {a : Act} {w : World} {K : Act -> World -> Prop} (he : PuV P (execOp a.eval o)) (h : o.wp P a w K QF) :
  ∃ v, K (a.put o.dst v) w /\ ∀ w', (execOp a.eval o).run P w' = .ok (.value v) w' := by
 unfold Oper.wp at h; cases hr : (execOp a.eval o).run P w with
 | ok n w1 =>
  obtain ⟨rfl, v, rfl, hs⟩ := he w n w1 hr; rw [hr] at h; exact ⟨v, h, hs⟩
 | halt x w1 => rw [hr] at h; cases x <;> simp only [Oper.upon] at h; exact h.elim
theorem wp_of_run {o : Oper} {a : Act} {w w1 : World} {v : Value} {K : Act -> World -> Prop} (hr : (execOp a.eval o).run P w = .ok (.value v) w1) (h : K (a.put o.dst v) w1) : o.wp P a w K QF := by
 unfold Oper.wp; rw [hr]; exact h
theorem wp_below {o : Oper} {a : Act} {w : World} {K : Act -> World -> Prop} (he : ExV P (execOp a.eval o)) (h : o.wp P a w K QF) :
  o.wp P a w (fun a' w' => Below w.heap.size w w' /\ K a' w') QF := by
 unfold Oper.wp at h; cases hr : (execOp a.eval o).run P w with
 | ok n w1 =>
  obtain ⟨hb, v, rfl⟩ := he w n w1 hr; rw [hr] at h; exact wp_of_run hr ⟨hb, h⟩
 | halt x w1 => rw [hr] at h; cases x <;> simp only [Oper.upon] at h; exact h.elim
def swB (P : Program) (l : Array Oper) (fl : Nat -> Bool) (i j : Nat) : Bool :=
 match l[i]?, l[j]? with
 | some oi, some oj => oi.apart l oj && (kd P oi == 0 || kd P oj == 0 || (kd P oi == 1 && (kd P oj == 1 || kd P oj == 2 || (kd P oj == 3 && fl j))))
 | _, _ => true
theorem wanted_upd {o : Oper} {a : Act} {d : Option Tmp} {u : Value} {ds : List Deferred} (h : ∀ t, d = some t -> t ∉ o.looksAt l) :
  Region.wanted o (yielded l ({ (a.put d u) with defers := ds } : Act).tmps) = Region.wanted o (yielded l a.tmps) := wanted_put o a d u h
theorem eval_upd (a : Act) (ds : List Deferred) : ({ a with defers := ds } : Act).eval = a.eval := eval_defers a ds
theorem exec_upd {o : Oper} (hs : ∀ cs b, o.op ≠ .select cs b) {a : Act} {d : Option Tmp} {u : Value} {ds : List Deferred} (h : ∀ t, d = some t -> t ∉ o.looksAt l) :
  execOp ({ (a.put d u) with defers := ds } : Act).eval o = execOp a.eval o := by rw [eval_upd]; exact execOp_put o hs a d u h
theorem okB_upd {o : Oper} {a : Act} {d : Option Tmp} {u : Value} {ds : List Deferred} (h : ∀ t, d = some t -> t ∉ o.looksAt l) :
  okB o ({ (a.put d u) with defers := ds } : Act).eval = okB o a.eval := by rw [eval_upd]; exact okB_put h a
theorem swap {i j : Nat} {oi oj : Oper} (hi : l[i]? = some oi) (hj : l[j]? = some oj) (hsi : ∀ cs b, oi.op ≠ .select cs b) (hsj : ∀ cs b, oj.op ≠ .select cs b)
  (hB : swB P l fl i j = true) {K : Act -> World -> Prop} {a : Act} {w : World} (h : cOp P l fl i (cOp P l fl j K) a w) : cOp P l fl j (cOp P l fl i K) a w := by
 simp only [swB, hi, hj, Bool.and_eq_true, Bool.or_eq_true, beq_iff_eq] at hB; obtain ⟨hap, hk⟩ := hB; obtain ⟨p1, p2, p3⟩ := Oper.apart_spec hap; have p2' : ∀ t, oj.dst = some t -> oi.dst ≠ some t := fun t ht hd => p2 t hd ht; unfold cOp at h ⊢; simp only [hi, hj] at h ⊢; by_cases hwi : Region.wanted oi (yielded l a.tmps) = true
 ·rw [if_pos hwi] at h; obtain ⟨hoi, h⟩ := h; by_cases hwj : Region.wanted oj (yielded l a.tmps) = true
  ·rw [if_pos hwj]; have wj : ∀ u ds, Region.wanted oj (yielded l ({ (a.put oi.dst u) with defers := ds } : Act).tmps) = true := fun u ds => by rw [wanted_upd p1]; exact hwj
   have wi : ∀ u ds, Region.wanted oi (yielded l ({ (a.put oj.dst u) with defers := ds } : Act).tmps) = true := fun u ds => by rw [wanted_upd p3]; exact hwi
   have wj' : ∀ u, Region.wanted oj (yielded l (a.put oi.dst u).tmps) = true := fun u => by rw [wanted_put oj a oi.dst u p1]; exact hwj
   have wi' : ∀ u, Region.wanted oi (yielded l (a.put oj.dst u).tmps) = true := fun u => by rw [wanted_put oi a oj.dst u p3]; exact hwi
   rcases hk with (hk | hk) | ⟨hk1, hk2⟩
   ·obtain ⟨v, ⟨_, hv⟩, hrun⟩ := wp_run_pu (puv_exec hk hoi) h; rw [if_pos (wj' v)] at hv; obtain ⟨hoj, hv⟩ := hv; refine ⟨by rw [okB_put p1] at hoj; exact hoj, wp_unput hsj p1 p2 hv fun u ds w' hh => ⟨hh.1, ?_⟩⟩; rw [if_pos (wi u ds)]; refine ⟨by rw [okB_upd p3]; exact hoi, wp_of_run (v := v) (w1 := w') (by rw [exec_upd hsi p3]; exact hrun w') ⟨fun _ => Below.refl _ _, hh.2⟩⟩
   ·obtain ⟨u0, ds0, w0, hx⟩ := wp_exists h; have hx2 := hx.2; rw [if_pos (wj u0 ds0)] at hx2; have hoj : okB oj a.eval = true := by have := hx2.1; rw [okB_upd p1] at this; exact this
    obtain ⟨v, _, hrun⟩ := wp_run_pu (puv_exec hk hx2.1) hx2.2; rw [exec_upd hsj p1] at hrun; refine ⟨hoj, wp_of_run (hrun w) ⟨fun _ => Below.refl _ _, ?_⟩⟩; rw [if_pos (wi' v)]; refine ⟨by rw [okB_put p3]; exact hoi, wp_put' hsi p3 p2' h fun u ds w' hh => ⟨hh.1, ?_⟩⟩; have hh2 := hh.2; rw [if_pos (wj u ds)] at hh2; obtain ⟨v', hv', hrun'⟩ := wp_run_pu (puv_exec hk hh2.1) hh2.2; have e := hrun' w; rw [exec_upd hsj p1, hrun w] at e; simp only [Result.ok.injEq, Next.value.injEq, and_true] at e; rw [e]; exact hv'.2
   ·obtain ⟨v, ⟨_, hv⟩, hrun⟩ := wp_run_st (stv_exec hk1) h; rw [if_pos (wj' v)] at hv; obtain ⟨hoj, hv⟩ := hv; have hv2 : oj.wp P (a.put oi.dst v) w (fun a' w' => Below w.heap.size w w' /\ (fl j = true -> Below w.heap.size w w') /\ K a' w') QF := by
     rcases hk2 with (hk2 | hk2) | ⟨_, hk2⟩
     ·exact wp_below (stv_exec hk2).ex hv
     ·exact wp_below (exv_exec hk2) hv
     ·exact Oper.wp_mono (fun _ _ hh => ⟨hh.1 hk2, hh⟩) hv
    refine ⟨by rw [okB_put p1] at hoj; exact hoj, wp_unput hsj p1 p2 hv2 fun u ds w' hh => ⟨hh.2.1, ?_⟩⟩; rw [if_pos (wi u ds)]; refine ⟨by rw [okB_upd p3]; exact hoi, wp_of_run (v := v) (w1 := w') (by rw [exec_upd hsi p3]; exact hrun w' hh.1) ⟨fun _ => Below.refl _ _, hh.2.2⟩⟩
  ·rw [if_neg hwj]; have wj : ∀ u ds, ¬ Region.wanted oj (yielded l ({ (a.put oi.dst u) with defers := ds } : Act).tmps) = true := fun u ds => by rw [wanted_upd p1]; exact hwj
   rw [if_pos (by rw [wanted_put oi a oj.dst undef p3]; exact hwi)]; refine ⟨by rw [okB_put p3]; exact hoi, wp_put' hsi p3 p2' h fun u ds w' hh => ⟨hh.1, ?_⟩⟩; have hh2 := hh.2; rw [if_neg (wj u ds)] at hh2; exact hh2
 ·rw [if_neg hwi] at h; by_cases hwj : Region.wanted oj (yielded l a.tmps) = true
  ·rw [if_pos hwj]; rw [if_pos (by rw [wanted_put oj a oi.dst undef p1]; exact hwj)] at h; refine ⟨by have := h.1; rw [okB_put p1] at this; exact this, wp_unput hsj p1 p2 h.2 fun u ds w' hh => ⟨hh.1, ?_⟩⟩; rw [if_neg (by rw [wanted_upd p3]; exact hwi)]; exact hh.2
  ·rw [if_neg hwj]; rw [if_neg (by rw [wanted_put oj a oi.dst undef p1]; exact hwj)] at h; rw [if_neg (by rw [wanted_put oi a oj.dst undef p3]; exact hwi), <- Act.put_comm a undef undef p2]; exact h
theorem cOp_exists {i : Nat} {K : Act -> World -> Prop} {a : Act} {w : World} (h : cOp P l fl i K a w) : ∃ a' w', K a' w' := by
 unfold cOp at h
 split at h
 ·exact ⟨_, _, h⟩
 ·split at h
  ·obtain ⟨u, ds, w', hh⟩ := wp_exists h.2; exact ⟨_, _, hh.2⟩
  ·exact ⟨_, _, h⟩
def cAny (P : Program) (md : Region.Mode) (l : Array Oper) (fl : Nat -> Bool) (Q : Act -> World -> Prop) : Nat -> Array Bool -> Act -> World -> Prop
 | 0, listed, a, w => Region.ready md l listed = [] /\ Q a w
 | f + 1, listed, a, w => (Region.ready md l listed = [] -> Q a w) /\ ∀ i ∈ Region.ready md l listed, cOp P l fl i (cAny P md l fl Q f (listed.setIfInBounds i true)) a w
theorem wpAny_of_cAny {md : Region.Mode} {Q : Act -> World -> Prop} {Q' : Exit -> Act -> World -> Prop} (hQ : ∀ a w, Q a w -> Q' .normal a w) :
  ∀ (f : Nat) (listed : Array Bool) (a : Act) (w : World), cAny P md l fl Q f listed a w -> wpAny P md l Q' f listed a w
 | 0, _, _, _, h => ⟨h.1, hQ _ _ h.2⟩
 | f + 1, _, _, _, h => ⟨fun h0 => hQ _ _ (h.1 h0), fun i hi => wpOp_mono (fun a w => wpAny_of_cAny hQ f _ a w) (wpOp_of_cOp (h.2 i hi))⟩
inductive Waits (md : Region.Mode) (l : Array Oper) (i : Nat) : Nat -> Prop
 | step {k : Nat} {o : Oper} {e : Edge} : l[k]? = some o -> e ∈ o.after -> Region.binds md e = true -> e.on = i -> Waits md l i k
 | next {k : Nat} {o : Oper} {e : Edge} : l[k]? = some o -> e ∈ o.after -> Region.binds md e = true -> Waits md l i e.on -> Waits md l i k
def Shut (md : Region.Mode) (l : Array Oper) (listed : Array Bool) : Prop :=
 ∀ k o, l[k]? = some o -> listed.getD k false = true -> ∀ e ∈ o.after, Region.binds md e = true -> listed.getD e.on false = true
theorem Waits.unlisted {md : Region.Mode} {i k : Nat} {listed : Array Bool} (hs : Shut md l listed) (hi : listed.getD i false = false) (h : Waits md l i k) : listed.getD k false = false := by
 induction h with
 | step hk he hb hon =>
  rename_i k o e; cases hl : listed.getD k false with
  | false => rfl
  | true => have := hs _ _ hk hl _ he hb; rw [hon, hi] at this; cases this
 | next hk he hb _ ih =>
  rename_i k o e _; cases hl : listed.getD k false with
  | false => rfl
  | true => have := hs _ _ hk hl _ he hb; rw [ih] at this; cases this
theorem Waits.not_ready {md : Region.Mode} {i k : Nat} {listed : Array Bool} (hs : Shut md l listed) (hi : listed.getD i false = false) (h : Waits md l i k) : k ∉ Region.ready md l listed := by
 intro hr; obtain ⟨_, o, ho, hall⟩ := mem_ready.1 hr; cases h with
 | step hk he hb hon =>
  rw [ho] at hk; cases hk; have := hall _ he hb; rw [hon, hi] at this; cases this
 | next hk he hb hw =>
  rw [ho] at hk; cases hk; have := hall _ he hb; rw [hw.unlisted hs hi] at this; cases this
theorem getD_tf {listed : Array Bool} {i : Nat} (h : listed.getD i true = false) : listed.getD i false = false := by
 rcases Nat.lt_or_ge i listed.size with h' | h'
 ·simp [h'] at h ⊢; exact h
 ·simp [Array.getElem?_eq_none h'] at h
theorem Shut.set {md : Region.Mode} {i : Nat} {listed : Array Bool} (hs : Shut md l listed) (hi : i ∈ Region.ready md l listed) : Shut md l (listed.setIfInBounds i true) := by
 intro k o hk hl e he hb; by_cases hik : i = k
 ·subst hik; obtain ⟨_, o', ho, hall⟩ := mem_ready.1 hi; rw [hk] at ho; cases ho; exact getD_set_true (hall e he hb)
 ·rw [getD_set_ne false hik] at hl; exact getD_set_true (hs k o hk hl e he hb)
def bits (md : Region.Mode) (acc : Array Nat) (o : Oper) : Nat := o.after.toList.foldl (fun s e => if Region.binds md e then s ||| (2 ^ e.on ||| acc.getD e.on 0) else s) 0
def masks (md : Region.Mode) : List Oper -> Array Nat -> Array Nat
 | [], acc => acc
 | o :: os, acc => masks md os (acc.push (bits md acc o))
theorem bits_spec {md : Region.Mode} {acc : Array Nat} {i : Nat} : ∀ (es : List Edge) (s : Nat),
  (es.foldl (fun s e => if Region.binds md e then s ||| (2 ^ e.on ||| acc.getD e.on 0) else s) s).testBit i = true ->
  s.testBit i = true ∨ ∃ e ∈ es, Region.binds md e = true /\ (e.on = i ∨ (acc.getD e.on 0).testBit i = true)
 | [], s, h => .inl h
 | e :: es, s, h => by
  rw [List.foldl_cons] at h; rcases bits_spec es _ h with h1 | ⟨e', he', hb, hh⟩
  ·split at h1
   ·rename_i hb; rw [Nat.testBit_or, Nat.testBit_or, Bool.or_eq_true, Bool.or_eq_true] at h1; rcases h1 with h1 | h1 | h1
    ·exact .inl h1
    ·refine .inr ⟨e, List.mem_cons_self .., hb, .inl ?_⟩; rw [Nat.testBit_two_pow] at h1
     simpa using h1
    ·exact .inr ⟨e, List.mem_cons_self .., hb, .inr h1⟩
   ·exact .inl h1
  ·exact .inr ⟨e', List.mem_cons_of_mem _ he', hb, hh⟩
theorem masks_spec {md : Region.Mode} {i : Nat} : ∀ (os : List Oper) (acc : Array Nat), (∀ k, l[acc.size + k]? = os[k]?) ->
  (∀ k, (acc.getD k 0).testBit i = true -> Waits md l i k) -> ∀ k, ((masks md os acc).getD k 0).testBit i = true -> Waits md l i k
 | [], _, _, h, k, hk => h k hk
 | o :: os, acc, hl, h, k, hk => by
  refine masks_spec os (acc.push (bits md acc o)) ?_ ?_ k hk
  ·intro k; have := hl (k + 1); rw [Array.size_push]
   simpa [Nat.add_assoc, Nat.add_comm 1 k] using this
  ·intro k hk; have h0 : l[acc.size]? = some o := by simpa using hl 0
   by_cases hlt : k < acc.size
   ·refine h k ?_
    simpa [Array.getD_eq_getD_getElem?, Array.getElem?_push, Nat.ne_of_lt hlt] using hk
   ·by_cases he : k = acc.size
    ·subst he; have hk' : (bits md acc o).testBit i = true := by simpa [Array.getD_eq_getD_getElem?, Array.getElem?_push] using hk
     rcases bits_spec o.after.toList 0 hk' with h1 | ⟨e, hem, hb, hh⟩
     ·simp at h1
     ·have hem' : e ∈ o.after := by simpa using hem
      rcases hh with hh | hh
      ·exact .step h0 hem' hb hh
      ·exact .next h0 hem' hb (h _ hh)
    ·have : (acc.push (bits md acc o))[k]? = none := Array.getElem?_eq_none (by rw [Array.size_push]; omega); simp [Array.getD_eq_getD_getElem?, this] at hk
theorem cAny_first {md : Region.Mode} {Q : Act -> World -> Prop} {i : Nat} (hsel : Region.noSelect l = true) :
  ∀ (f : Nat) (listed : Array Bool) (a : Act) (w : World), Shut md l listed ->
   (∀ j oj, l[j]? = some oj -> j ≠ i -> listed.getD j true = false -> ¬ Waits md l i j -> swB P l fl i j = true) ->
   i ∈ Region.ready md l listed -> cOp P l fl i (cAny P md l fl Q f (listed.setIfInBounds i true)) a w -> cAny P md l fl Q (f + 1) listed a w := by
 intro f
 induction f with
 | zero =>
  intro listed a w _ _ hr h; refine ⟨fun h0 => (by rw [h0] at hr; cases hr), fun j hj => ?_⟩; by_cases hji : j = i
  ·subst hji; exact h
  ·obtain ⟨a', w', hx⟩ := cOp_exists h; have := ready_mono hj hji; rw [hx.1] at this; cases this
 | succ f ih =>
  intro listed a w hs hfree hr h; refine ⟨fun h0 => (by rw [h0] at hr; cases hr), fun j hj => ?_⟩; by_cases hji : j = i
  ·subst hji; exact h
  ·obtain ⟨hjun, oj, hoj, hall⟩ := mem_ready.1 hj; obtain ⟨hiun, oi, hoi, _⟩ := mem_ready.1 hr; have hnot : ¬ Waits md l i j := fun hw => hw.not_ready hs (getD_tf hiun) hj; have h1 : cOp P l fl i (cOp P l fl j (cAny P md l fl Q f ((listed.setIfInBounds i true).setIfInBounds j true))) a w :=
    cOp_mono (fun a' w' hh => hh.2 j (ready_mono hj hji)) h
   have h2 := swap hoi hoj (Region.noSelect_spec hsel i oi · · hoi) (Region.noSelect_spec hsel j oj · · hoj) (hfree j oj hoj hji hjun hnot) h1; refine cOp_mono (fun a' w' h3 => ih (listed.setIfInBounds j true) a' w' (hs.set hj) ?_ (ready_mono hr (Ne.symm hji)) ?_) h2
   ·intro k ok hk hki hun hno; refine hfree k ok hk hki ?_ hno; by_cases hjk : j = k
    ·subst hjk; exact hjun
    ·rw [getD_set_ne true hjk] at hun; exact hun
   ·rw [Array.setIfInBounds_comm _ _ (Ne.symm hji)] at h3; exact h3
def frB (P : Program) (l : Array Oper) (fl : Nat -> Bool) (ms : Array Nat) (listed : Array Bool) (i : Nat) : Bool :=
 (List.range l.size).all fun j => j == i || (listed.getD j true || ((ms.getD j 0).testBit i || swB P l fl i j))
def canB (P : Program) (md : Region.Mode) (l : Array Oper) (fl : Nat -> Bool) (ms : Array Nat) : List Nat -> Array Bool -> Bool
 | [], listed => (Region.ready md l listed).isEmpty
 | i :: π, listed => (Region.ready md l listed).contains i && (frB P l fl ms listed i && canB P md l fl ms π (listed.setIfInBounds i true))
def cList (P : Program) (l : Array Oper) (fl : Nat -> Bool) (Q : Act -> World -> Prop) : List Nat -> Act -> World -> Prop
 | [], a, w => Q a w
 | i :: π, a, w => cOp P l fl i (cList P l fl Q π) a w
theorem frB_spec {md : Region.Mode} {ms : Array Nat} (hms : ∀ i k, (ms.getD k 0).testBit i = true -> Waits md l i k) {listed : Array Bool} {i : Nat} (h : frB P l fl ms listed i = true) (j : Nat) (oj : Oper) (hj : l[j]? = some oj) (hne : j ≠ i)
  (hun : listed.getD j true = false) (hno : ¬ Waits md l i j) : swB P l fl i j = true := by
 simp only [frB, List.all_eq_true, List.mem_range] at h; have h1 := h j (Array.getElem?_eq_some_iff.1 hj).1; simp only [Bool.or_eq_true, beq_iff_eq, hne, false_or, hun, Bool.false_eq_true] at h1; rcases h1 with h1 | h1
 ·exact absurd (hms i j h1) hno
 ·exact h1
theorem cAny_of_cList {md : Region.Mode} {Q : Act -> World -> Prop} (hsel : Region.noSelect l = true) {ms : Array Nat} (hms : ∀ i k, (ms.getD k 0).testBit i = true -> Waits md l i k) :
  ∀ (π : List Nat) (listed : Array Bool) (a : Act) (w : World), Shut md l listed ->
  canB P md l fl ms π listed = true -> cList P l fl Q π a w -> cAny P md l fl Q π.length listed a w
 | [], _, _, _, _, hB, h => ⟨by simpa [canB] using hB, h⟩
 | i :: π, listed, a, w, hs, hB, h => by
  simp only [canB, Bool.and_eq_true] at hB; obtain ⟨hr, hf, hB'⟩ := hB; have hr' : i ∈ Region.ready md l listed := by simpa using hr
  exact cAny_first hsel π.length listed a w hs (frB_spec hms hf) hr' (cOp_mono (fun a w => cAny_of_cList hsel hms π _ a w (hs.set hr') hB') h)
def regB (P : Program) (l : Array Oper) (fl : Nat -> Bool) (π : List Nat) : Bool :=
 Region.noSelect l && (π.length == l.size && canB P .any l fl (masks .any l.toList #[]) π (Array.replicate l.size false))
theorem wp_region_can {id : Nat} {Q : Exit -> Act -> World -> Prop} {a : Act} {w : World} (fl π : List Nat) (hm : P.follows .mixedOrders = true) (hB : regB P l (fun i => fl.contains i) π = true)
  (h : cList P l (fun i => fl.contains i) (fun a w => Q .normal a w) π a w.drew) : (Code.region id l true).wp P Q a w := by
 simp only [regB, Bool.and_eq_true, beq_iff_eq] at hB; obtain ⟨h1, h2, h3⟩ := hB; refine wp_region_any hm ?_; have hms : ∀ i k, ((masks .any l.toList #[]).getD k 0).testBit i = true -> Waits .any l i k := fun i => masks_spec l.toList #[] (fun k => by simp) (fun k hk => by simp at hk); have hs : Shut .any l (Array.replicate l.size false) := fun k o _ hl => by
  exfalso
  rcases Nat.lt_or_ge k l.size with h | h
  ·simp [h] at hl
  ·simp [h] at hl
 have := cAny_of_cList h1 hms π _ a w.drew hs h3 h; rw [h2] at this; exact wpAny_of_cAny (fun _ _ h => h) _ _ _ _ this
theorem wp_region_canA {id : Nat} {Q : Exit -> Act -> World -> Prop} {a : Act} {w : World} (fl π : List Nat) (h : cList P l (fun i => fl.contains i) (fun a w => Q .normal a w) π a w.drew) (hm : P.follows .mixedOrders = true := by decide +kernel) (hB : regB P l (fun i => fl.contains i) π = true := by decide +kernel) : (Code.region id l true).wp P Q a w := wp_region_can fl π hm hB h
def nth : List Oper -> Nat -> Option Oper
 | [], _ => none
 | o :: _, 0 => some o
 | _ :: l, i + 1 => nth l i
theorem nth_eq : ∀ (l : List Oper) (i : Nat), l.toArray[i]? = nth l i
 | [], i => by simp [nth]
 | o :: l, 0 => by simp [nth]
 | o :: l, i + 1 => by have := nth_eq l i; simp [nth] at this ⊢; exact this
section
variable {ls : List Oper} {Q : Act -> World -> Prop} {π : List Nat} {a : Act} {w : World} {i : Nat} {o : Oper}
theorem cl_nil (h : Q a w) : cList P ls.toArray fl Q [] a w := h
theorem cl_do (ho : nth ls i = some o) (hg : o.guard = none) (hf : fl i = false) (hk : okB o a.eval = true)
  (h : ∀ K : Act -> World -> Prop, (∀ a w, cList P ls.toArray fl Q π a w -> K a w) -> o.wp P a w K QF) : cList P ls.toArray fl Q (i :: π) a w := by
 unfold cList cOp; simp only [nth_eq, ho, Region.wanted, hg, if_true]; exact ⟨hk, h _ fun a' w' hh => ⟨(fun hx => by rw [hf] at hx; cases hx), hh⟩⟩
theorem cl_doA (ho : nth ls i = some o) (hg : o.guard = none) (hf : fl i = false) (h : ∀ K : Act -> World -> Prop, (∀ a w, cList P ls.toArray fl Q π a w -> K a w) -> o.wp P a w K QF) (hk : okB o a.eval = true := by first | rfl | simp [okB, lenV, plainV, Act.eval]) : cList P ls.toArray fl Q (i :: π) a w := cl_do ho hg hf hk h
theorem cl_call (ho : nth ls i = some o) (hg : o.guard = none) (hk : okB o a.eval = true)
  (h : ∀ K : Act -> World -> Prop, (∀ a' w', Below w.heap.size w w' /\ cList P ls.toArray fl Q π a' w' -> K a' w') -> o.wp P a w K QF) : cList P ls.toArray fl Q (i :: π) a w := by
 unfold cList cOp; simp only [nth_eq, ho, Region.wanted, hg, if_true]; exact ⟨hk, h _ fun a' w' hh => ⟨fun _ => hh.1, hh.2⟩⟩
theorem cl_skip (ho : nth ls i = some o) (hw : Region.wanted o (yielded ls.toArray a.tmps) = false) (h : cList P ls.toArray fl Q π (a.put o.dst undef) w) : cList P ls.toArray fl Q (i :: π) a w := by
 unfold cList cOp; simp only [nth_eq, ho, hw, Bool.false_eq_true, if_false]; exact h
theorem cl_guard {j : Nat} {b x : Bool} (ho : nth ls i = some o) (hg : o.guard = some (j, b)) (hy : yielded ls.toArray a.tmps j = some x) (hf : fl i = false) (hk : x = b -> okB o a.eval = true)
  (h : x = b -> ∀ K : Act -> World -> Prop, (∀ a w, cList P ls.toArray fl Q π a w -> K a w) -> o.wp P a w K QF) (h' : x = !b -> cList P ls.toArray fl Q π (a.put o.dst undef) w) : cList P ls.toArray fl Q (i :: π) a w := by
 unfold cList cOp; by_cases hx : x = b
 ·subst hx; simp only [nth_eq, ho, Region.wanted, hg, hy, beq_self_eq_true, if_true]; exact ⟨hk rfl, h rfl _ fun a' w' hh => ⟨(fun hx => by rw [hf] at hx; cases hx), hh⟩⟩
 ·have : (some x == some b) = false := by simpa using hx
  simp only [nth_eq, ho, Region.wanted, hg, hy, this, Bool.false_eq_true, if_false]; exact h' (by cases x <;> cases b <;> simp_all)
end
end
end Go.Cz
namespace Go.Cz
open Go.RowKit
section
variable {P : Program} {ls : List Oper} {fl : Nat -> Bool} {Q : Act -> World -> Prop} {i : Nat} {π : List Nat} {a : Act} {w : World} {o : Oper}
theorem cl_yes {j : Nat} {b : Bool} (ho : nth ls i = some o) (hg : o.guard = some (j, b)) (hy : yielded ls.toArray a.tmps j = some b) (hf : fl i = false) (hk : okB o a.eval = true)
  (h : ∀ K : Act -> World -> Prop, (∀ a w, cList P ls.toArray fl Q π a w -> K a w) -> o.wp P a w K QF) : cList P ls.toArray fl Q (i :: π) a w :=
 cl_guard ho hg hy hf (fun _ => hk) (fun _ => h) (fun hx => by cases b <;> cases hx)
theorem cl_yesA {j : Nat} {b : Bool} (ho : nth ls i = some o) (hg : o.guard = some (j, b)) (hy : yielded ls.toArray a.tmps j = some b) (hf : fl i = false) (h : ∀ K : Act -> World -> Prop, (∀ a w, cList P ls.toArray fl Q π a w -> K a w) -> o.wp P a w K QF) (hk : okB o a.eval = true := by first | rfl | simp [okB, lenV, plainV, Act.eval]) : cList P ls.toArray fl Q (i :: π) a w := cl_yes ho hg hy hf hk h
theorem cl_no {j : Nat} {b : Bool} (ho : nth ls i = some o) (hg : o.guard = some (j, b)) (hy : yielded ls.toArray a.tmps j = some (!b)) (h : cList P ls.toArray fl Q π (a.put o.dst undef) w) : cList P ls.toArray fl Q (i :: π) a w :=
 cl_skip ho (by unfold Region.wanted; rw [hg]; dsimp only; rw [hy]; cases b <;> rfl) h
end
end Go.Cz
namespace Go.Cz
open Go.RowKit
section
variable {P : Program} {ls : List Oper} {fl : Nat -> Bool} {Q : Act -> World -> Prop} {i : Nat} {π : List Nat} {a : Act} {w : World} {o : Oper}
theorem cl_ycall {j : Nat} {b : Bool} (ho : nth ls i = some o) (hg : o.guard = some (j, b)) (hy : yielded ls.toArray a.tmps j = some b) (hk : okB o a.eval = true)
  (h : ∀ K : Act -> World -> Prop, (∀ a' w', Below w.heap.size w w' /\ cList P ls.toArray fl Q π a' w' -> K a' w') -> o.wp P a w K QF) : cList P ls.toArray fl Q (i :: π) a w := by
 unfold cList cOp; simp only [nth_eq, ho, Region.wanted, hg, hy, beq_self_eq_true, if_true]; exact ⟨hk, h _ fun a' w' hh => ⟨fun _ => hh.1, hh.2⟩⟩
end
end Go.Cz
namespace Go.Cz
open Go.RowKit
inductive Plan
 | done
 | step (i : Nat) (p : Plan)
 | fork (i : Nat) (p : Plan) (j : Nat) (q : Plan)
def Plan.len : Plan -> Nat
 | .done => 0
 | .step _ p => p.len + 1
 | .fork _ p _ _ => p.len + 1
section
variable {P : Program} {l : Array Oper} {fl : Nat -> Bool}
def kdAt (P : Program) (l : Array Oper) (j : Nat) : Bool := match l[j]? with | some o => kd P o == 0 | none => true
def fr2B (P : Program) (l : Array Oper) (fl : Nat -> Bool) (ms : Array Nat) (listed : Array Bool) (i i' : Nat) : Bool :=
 (List.range l.size).all fun j => j == i || (j == i' || (listed.getD j true || ((ms.getD j 0).testBit i || ((ms.getD j 0).testBit i' || (swB P l fl i j && kdAt P l j)))))
def canP (P : Program) (md : Region.Mode) (l : Array Oper) (fl : Nat -> Bool) (ms : Array Nat) : Plan -> Array Bool -> Bool
 | .done, listed => (Region.ready md l listed).isEmpty
 | .step i p, listed => (Region.ready md l listed).contains i && (frB P l fl ms listed i && canP P md l fl ms p (listed.setIfInBounds i true))
 | .fork i p j q, listed => (Region.ready md l listed).contains i && ((Region.ready md l listed).contains j && (p.len == q.len && (fr2B P l fl ms listed i j && (fr2B P l fl ms listed j i && (canP P md l fl ms p (listed.setIfInBounds i true) && canP P md l fl ms q (listed.setIfInBounds j true))))))
def cPlan (P : Program) (l : Array Oper) (fl : Nat -> Bool) (Q : Act -> World -> Prop) : Plan -> Act -> World -> Prop
 | .done, a, w => Q a w
 | .step i p, a, w => cOp P l fl i (cPlan P l fl Q p) a w
 | .fork i p j q, a, w => cOp P l fl i (cPlan P l fl Q p) a w /\ cOp P l fl j (cPlan P l fl Q q) a w
theorem cOp_and {j : Nat} {K K' : Act -> World -> Prop} {a : Act} {w : World} (hk : kdAt P l j = true) (h : cOp P l fl j K a w) (h' : cOp P l fl j K' a w) : cOp P l fl j (fun a w => K a w /\ K' a w) a w := by
 unfold cOp at *; unfold kdAt at hk
 split
 ·rename_i ho; simp only [ho] at h h'; exact ⟨h, h'⟩
 ·rename_i o ho; simp only [ho] at h h' hk
  split
  ·rename_i hw; rw [if_pos hw] at h h'; obtain ⟨v, hv, hrun⟩ := wp_run_pu (puv_exec (by simpa using hk) h.1) h.2; obtain ⟨v', hv', hrun'⟩ := wp_run_pu (puv_exec (by simpa using hk) h.1) h'.2; have e := hrun' w; rw [hrun w] at e; simp only [Result.ok.injEq, Next.value.injEq, and_true] at e; subst e; exact ⟨h.1, wp_of_run (hrun w) ⟨hv.1, hv.2, hv'.2⟩⟩
  ·rename_i hw; rw [if_neg hw] at h h'; exact ⟨h, h'⟩
theorem cAny_two {md : Region.Mode} {Q : Act -> World -> Prop} {i i' : Nat} (hsel : Region.noSelect l = true) (hne : i ≠ i') :
  ∀ (f : Nat) (listed : Array Bool) (a : Act) (w : World), Shut md l listed ->
   (∀ j oj, l[j]? = some oj -> j ≠ i -> j ≠ i' -> listed.getD j true = false -> ¬ Waits md l i j -> ¬ Waits md l i' j -> swB P l fl i j = true /\ kdAt P l j = true) ->
   (∀ j oj, l[j]? = some oj -> j ≠ i -> j ≠ i' -> listed.getD j true = false -> ¬ Waits md l i j -> ¬ Waits md l i' j -> swB P l fl i' j = true /\ kdAt P l j = true) ->
   i ∈ Region.ready md l listed -> i' ∈ Region.ready md l listed ->
   cOp P l fl i (cAny P md l fl Q f (listed.setIfInBounds i true)) a w -> cOp P l fl i' (cAny P md l fl Q f (listed.setIfInBounds i' true)) a w -> cAny P md l fl Q (f + 1) listed a w := by
 intro f
 induction f with
 | zero =>
  intro listed a w _ _ _ hr hr' h h'; refine ⟨fun h0 => (by rw [h0] at hr; cases hr), fun j hj => ?_⟩; by_cases hji : j = i
  ·subst hji; exact h
  ·obtain ⟨a', w', hx⟩ := cOp_exists h; have := ready_mono hj hji; rw [hx.1] at this; cases this
 | succ f ih =>
  intro listed a w hs hfree hfree' hr hr' h h'; refine ⟨fun h0 => (by rw [h0] at hr; cases hr), fun j hj => ?_⟩; by_cases hji : j = i
  ·subst hji; exact h
  by_cases hji' : j = i'
  ·subst hji'; exact h'
  ·obtain ⟨hjun, oj, hoj, hall⟩ := mem_ready.1 hj; obtain ⟨hiun, oi, hoi, _⟩ := mem_ready.1 hr; obtain ⟨hiun', oi', hoi', _⟩ := mem_ready.1 hr'; have hnot : ¬ Waits md l i j := fun hw => hw.not_ready hs (getD_tf hiun) hj; have hnot' : ¬ Waits md l i' j := fun hw => hw.not_ready hs (getD_tf hiun') hj; have h1 : cOp P l fl i (cOp P l fl j (cAny P md l fl Q f ((listed.setIfInBounds i true).setIfInBounds j true))) a w :=
    cOp_mono (fun a' w' hh => hh.2 j (ready_mono hj hji)) h
   have h1' : cOp P l fl i' (cOp P l fl j (cAny P md l fl Q f ((listed.setIfInBounds i' true).setIfInBounds j true))) a w :=
    cOp_mono (fun a' w' hh => hh.2 j (ready_mono hj hji')) h'
   obtain ⟨hsw, hkj⟩ := hfree j oj hoj hji hji' hjun hnot hnot'; obtain ⟨hsw', -⟩ := hfree' j oj hoj hji hji' hjun hnot hnot'; have h2 := swap hoi hoj (Region.noSelect_spec hsel i oi · · hoi) (Region.noSelect_spec hsel j oj · · hoj) hsw h1; have h2' := swap hoi' hoj (Region.noSelect_spec hsel i' oi' · · hoi') (Region.noSelect_spec hsel j oj · · hoj) hsw' h1'; refine cOp_mono (fun a' w' h3 => ih (listed.setIfInBounds j true) a' w' (hs.set hj) ?_ ?_ (ready_mono hr (Ne.symm hji)) (ready_mono hr' (Ne.symm hji')) ?_ ?_) (cOp_and hkj h2 h2')
   ·intro k ok hk hki hki' hun hno hno'; refine hfree k ok hk hki hki' ?_ hno hno'; by_cases hjk : j = k
    ·subst hjk; exact hjun
    ·rw [getD_set_ne true hjk] at hun; exact hun
   ·intro k ok hk hki hki' hun hno hno'; refine hfree' k ok hk hki hki' ?_ hno hno'; by_cases hjk : j = k
    ·subst hjk; exact hjun
    ·rw [getD_set_ne true hjk] at hun; exact hun
   ·have h4 := h3.1; rw [Array.setIfInBounds_comm _ _ (Ne.symm hji)] at h4; exact h4
   ·have h4 := h3.2; rw [Array.setIfInBounds_comm _ _ (Ne.symm hji')] at h4; exact h4
theorem fr2B_spec {md : Region.Mode} {ms : Array Nat} (hms : ∀ i k, (ms.getD k 0).testBit i = true -> Waits md l i k) {listed : Array Bool} {i i' : Nat} (h : fr2B P l fl ms listed i i' = true) (j : Nat) (oj : Oper) (hj : l[j]? = some oj) (hne : j ≠ i) (hne' : j ≠ i')
  (hun : listed.getD j true = false) (hno : ¬ Waits md l i j) (hno' : ¬ Waits md l i' j) : swB P l fl i j = true /\ kdAt P l j = true := by
 simp only [fr2B, List.all_eq_true, List.mem_range] at h; have h1 := h j (Array.getElem?_eq_some_iff.1 hj).1; simp only [Bool.or_eq_true, beq_iff_eq, hne, hne', false_or, hun, Bool.false_eq_true, Bool.and_eq_true] at h1; rcases h1 with h1 | h1 | h1
 ·exact absurd (hms i j h1) hno
 ·exact absurd (hms i' j h1) hno'
 ·exact h1
theorem cAny_of_cPlan {md : Region.Mode} {Q : Act -> World -> Prop} (hsel : Region.noSelect l = true) {ms : Array Nat} (hms : ∀ i k, (ms.getD k 0).testBit i = true -> Waits md l i k) :
  ∀ (p : Plan) (listed : Array Bool) (a : Act) (w : World), Shut md l listed -> canP P md l fl ms p listed = true -> cPlan P l fl Q p a w -> cAny P md l fl Q p.len listed a w
 | .done, _, _, _, _, hB, h => ⟨by simpa [canP] using hB, h⟩
 | .step i p, listed, a, w, hs, hB, h => by
  simp only [canP, Bool.and_eq_true] at hB; obtain ⟨hr, hf, hB'⟩ := hB; have hr' : i ∈ Region.ready md l listed := by simpa using hr
  exact cAny_first hsel p.len listed a w hs (frB_spec hms hf) hr' (cOp_mono (fun a w => cAny_of_cPlan hsel hms p _ a w (hs.set hr') hB') h)
 | .fork i p j q, listed, a, w, hs, hB, h => by
  simp only [canP, Bool.and_eq_true, beq_iff_eq] at hB; obtain ⟨hr, hr2, hlen, hf, hf2, hB1, hB2⟩ := hB; have hr' : i ∈ Region.ready md l listed := by simpa using hr
  have hr2' : j ∈ Region.ready md l listed := by simpa using hr2
  have h2 : cOp P l fl j (cAny P md l fl Q p.len (listed.setIfInBounds j true)) a w := by rw [hlen]; exact cOp_mono (fun a w => cAny_of_cPlan hsel hms q _ a w (hs.set hr2') hB2) h.2
  by_cases hij : i = j
  ·subst hij; refine cAny_first hsel p.len listed a w hs ?_ hr' h2; intro k ok hk hki hun hno; exact (fr2B_spec hms hf k ok hk hki hki hun hno hno).1
  ·exact cAny_two hsel hij p.len listed a w hs (fun k ok hk h1 h2 h3 h4 h5 => fr2B_spec hms hf k ok hk h1 h2 h3 h4 h5) (fun k ok hk h1 h2 h3 h4 h5 => fr2B_spec hms hf2 k ok hk h2 h1 h3 h5 h4) hr' hr2' (cOp_mono (fun a w => cAny_of_cPlan hsel hms p _ a w (hs.set hr') hB1) h.1) h2
def regP (P : Program) (l : Array Oper) (fl : Nat -> Bool) (p : Plan) : Bool :=
 Region.noSelect l && (p.len == l.size && canP P .any l fl (masks .any l.toList #[]) p (Array.replicate l.size false))
theorem wp_region_plan {id : Nat} {Q : Exit -> Act -> World -> Prop} {a : Act} {w : World} (fl : List Nat) (p : Plan) (hm : P.follows .mixedOrders = true) (hB : regP P l (fun i => fl.contains i) p = true)
  (h : cPlan P l (fun i => fl.contains i) (fun a w => Q .normal a w) p a w.drew) : (Code.region id l true).wp P Q a w := by
 simp only [regP, Bool.and_eq_true, beq_iff_eq] at hB; obtain ⟨h1, h2, h3⟩ := hB; refine wp_region_any hm ?_; have hms : ∀ i k, ((masks .any l.toList #[]).getD k 0).testBit i = true -> Waits .any l i k := fun i => masks_spec l.toList #[] (fun k => by simp) (fun k hk => by simp at hk); have hs : Shut .any l (Array.replicate l.size false) := fun k o _ hl => by
  exfalso
  rcases Nat.lt_or_ge k l.size with h | h
  ·simp [h] at hl
  ·simp [h] at hl
 have := cAny_of_cPlan h1 hms p _ a w.drew hs h3 h; rw [h2] at this; exact wpAny_of_cAny (fun _ _ h => h) _ _ _ _ this
section
variable {ls : List Oper} {Q : Act -> World -> Prop} {p q : Plan} {a : Act} {w : World} {i j : Nat} {o : Oper}
theorem cp_nil (h : Q a w) : cPlan P ls.toArray fl Q .done a w := h
theorem cp_fork (h : cPlan P ls.toArray fl Q (.step i p) a w) (h' : cPlan P ls.toArray fl Q (.step j q) a w) : cPlan P ls.toArray fl Q (.fork i p j q) a w := ⟨h, h'⟩
theorem cp_do (ho : nth ls i = some o) (hg : o.guard = none) (hf : fl i = false) (hk : okB o a.eval = true)
  (h : ∀ K : Act -> World -> Prop, (∀ a w, cPlan P ls.toArray fl Q p a w -> K a w) -> o.wp P a w K QF) : cPlan P ls.toArray fl Q (.step i p) a w := by
 unfold cPlan cOp; simp only [nth_eq, ho, Region.wanted, hg, if_true]; exact ⟨hk, h _ fun a' w' hh => ⟨(fun hx => by rw [hf] at hx; cases hx), hh⟩⟩
end
end
end Go.Cz
namespace Go.Cz
open Go.RowKit
structure Mod (S : List Nat) (w w' : World) : Prop where
 os : w'.os = w.os
 tape : w'.tape = w.tape
 output : w'.output = w.output
 size : w.heap.size <= w'.heap.size
 block : ∀ k, k < w.heap.size -> k ∉ S -> w'.heap[k]? = w.heap[k]?
theorem Mod.refl (S : List Nat) (w : World) : Mod S w w := ⟨rfl, rfl, rfl, Nat.le_refl _, fun _ _ _ => rfl⟩
theorem Mod.trans {S : List Nat} {a b c : World} (h : Mod S a b) (k : Mod S b c) : Mod S a c :=
 ⟨k.os.trans h.os, k.tape.trans h.tape, k.output.trans h.output, Nat.le_trans h.size k.size, fun i hi hs => (k.block i (Nat.lt_of_lt_of_le hi h.size) hs).trans (h.block i hi hs)⟩
theorem Mod.mono {S S' : List Nat} {w w' : World} (h : Mod S w w') (hs : ∀ k ∈ S, k < w.heap.size -> k ∈ S') : Mod S' w w' := ⟨h.os, h.tape, h.output, h.size, fun k hk hn => h.block k hk fun hm => hn (hs k hm hk)⟩
theorem Mod.then {S S' : List Nat} {a b c : World} (h : Mod S a b) (k : Mod S' b c) (hs : ∀ x ∈ S', x ∈ S ∨ a.heap.size <= x) : Mod S a c :=
 ⟨k.os.trans h.os, k.tape.trans h.tape, k.output.trans h.output, Nat.le_trans h.size k.size, fun i hi hn => (k.block i (Nat.lt_of_lt_of_le hi h.size) (fun hm => by rcases hs i hm with h | h; exact hn h; omega)).trans (h.block i hi hn)⟩
theorem Mod.ofBelow {w w' : World} (h : Below w.heap.size w w') (S : List Nat) : Mod S w w' := ⟨h.os, h.tape, h.output, h.size, fun k hk _ => h.block k hk⟩
theorem Mod.alloc {S : List Nat} {a w : World} (h : Mod S a w) (o : Obj) : Mod S a (w.alloc o) :=
 ⟨h.os, h.tape, h.output, by have := h.size; simp; omega, fun k hk hn => (Below.heap_alloc w o k (Nat.lt_of_lt_of_le hk h.size)).trans (h.block k hk hn)⟩
theorem Mod.drew {S : List Nat} {a w : World} (h : Mod S a w) : Mod S a w.drew := ⟨h.os, h.tape, h.output, h.size, h.block⟩
theorem Mod.setCell {S : List Nat} {a w : World} (h : Mod S a w) {p : Addr} (hp : p.block ∈ S ∨ a.heap.size <= p.block) (u : Value) : Mod S a (w.setCell p u) :=
 ⟨h.os, h.tape, h.output, by simpa using h.size, fun k hk hn => (Below.heap_setCell w p u k (fun e => by subst e; rcases hp with hp | hp; exact hn hp; omega)).trans (h.block k hk hn)⟩
theorem Mod.grown {S : List Nat} {a w w' : World} {row : Option Nat} (h : Mod S a w) (hg : w.grownBy w' row) (hr : ∀ k, row = some k -> k ∈ S ∨ a.heap.size <= k) : Mod S a w' :=
 ⟨hg.os.trans h.os, hg.tape.trans h.tape, hg.output.trans h.output, Nat.le_trans h.size hg.size, fun k hk hn =>
  (hg.block k (Nat.lt_of_lt_of_le hk h.size) (fun e => by rcases hr k e.symm with h | h; exact hn h; omega)).trans (h.block k hk hn)⟩
theorem Mod.cell {S : List Nat} {w w' : World} (h : Mod S w w') {p : Addr} (hp : p.block < w.heap.size) (hn : p.block ∉ S) : w'.cell? p = w.cell? p := World.cell?_of_block (w := w) (h.block p.block hp hn)
theorem Mod.heap {S : List Nat} {w w' : World} (h : Mod S w w') {k : Nat} {o : Obj} (hk : w.heap[k]? = some o) (hn : k ∉ S) : w'.heap[k]? = some o := (h.block k (lt_of_block hk) hn).trans hk
def bs (l : List UInt8) : ByteArray := ⟨l.toArray⟩
theorem bs_size (l : List UInt8) : (bs l).size = l.length := by simp [bs, ByteArray.size]
theorem bs_toList (l : List UInt8) : (bs l).toList = l := ByteArray.toList_mk l
theorem bs_data (l : List UInt8) : (bs l).data.toList = l := rfl
theorem bs_extract (l : List UInt8) (a b : Nat) : (bs l).extract a b = bs ((l.drop a).take (b - a)) := ByteArray.extract_mk l a b
theorem bs_append (a b : List UInt8) : bs a ++ bs b = bs (a ++ b) := by
 apply ByteArray.ext
 simp [bs, ByteArray.data_append]
theorem bs_of (s : ByteArray) : bs s.data.toList = s := by cases s; simp [bs]
theorem eq_bs (s : ByteArray) : ∃ l, s = bs l := ⟨s.data.toList, (bs_of s).symm⟩
theorem bs_inj {a b : List UInt8} (h : bs a = bs b) : a = b := by have := congrArg (fun s : ByteArray => s.data.toList) h; simpa [bs] using this
section
variable {P : Program}
theorem cell_of_heap {w : World} {b i : Nat} {cs : Array Value} {t : TypeId} {fr : Nat × Nat} (h : w.heap[b]? = some (.cells cs t fr)) : w.cell? ⟨b, i, none⟩ = cs[i]? := by simp [World.cell?, h]
theorem free_of_heap {w : World} {b i : Nat} {cs : Array Value} {t : TypeId} (h : w.heap[b]? = some (.cells cs t (0, 0))) : w.frozen? ⟨b, i, none⟩ = false := by simp [World.frozen?, h]
theorem setCell_heap {w : World} {b i : Nat} {cs : Array Value} {t : TypeId} {fr : Nat × Nat} (h : w.heap[b]? = some (.cells cs t fr)) (v : Value) : (w.setCell ⟨b, i, none⟩ v).heap[b]? = some (.cells (cs.setIfInBounds i v) t fr) := by
 have hlt := lt_of_block h; have hv : w.heap[b] = .cells cs t fr := (Array.getElem?_eq_some_iff.1 h).2; simp [World.setCell, Array.getElem?_modify, h]
theorem new_heap (w : World) (o : Obj) (n : Nat) (hn : n = w.heap.size) : (w.alloc o).heap[n]? = some o := by subst hn; exact heap_alloc_new w o
theorem wp_append {o : Oper} {a : Act} {K : Act -> World -> Prop} {Q : Exit -> Act -> World -> Prop} {w : World} (s x : Operand) (t : TypeId)
  (ho : o.op = .call { callee := .builtin .append, args := #[s, x], argTypes := #[t, t] })
  (e : TypeId) (z : Value) (size bytes : Nat) (ht : P.underlying t = some (.slice e)) (hinfo : (P.info? e).map (fun i => (i.zero, i.size, i.bytes)) = some (some z, size, bytes))
  (hzs : z.cells.size = size) (hsz : 0 < size)
  (v : Value) (n : Nat) (xs : List Value) (hs : a.eval s = v) (hown : w.ownsRow 0 e size v n xs)
  (xb c m : Nat) (news : List Value) (hx : a.eval x = .slice (some ⟨xb, 0, none⟩) m c) (hl : news.length = m * size) (t' : TypeId) (hb : w.heap[xb]? = some (.cells news.toArray t' (0, 0))) (h1 : ∀ u ∈ news, u.oneCell' = true)
  (h63 : (n + m) * bytes <= 140737488355328) (h64 : n + m <= 140737488355328)
  (h : ∀ v' w', w'.ownsRow 0 e size v' (n + m) (xs ++ news) -> w.grownBy w' v.ownBlock -> (v'.ownBlock = v.ownBlock ∨ v'.ownBlock = some w.heap.size) -> K (a.put o.dst v') w') : o.wp P a w K Q := by
 obtain ⟨i, hi, hz, hs1, hb1⟩ := info_parts hinfo; have hnews : ∀ j u, news[j]? = some u -> w.cell? ((⟨xb, 0, none⟩ : Addr).add j) = some u := by
  intro j u hu; have hadd : (⟨xb, 0, none⟩ : Addr).add j = ⟨xb, j, none⟩ := by unfold Addr.add; split <;> simp_all
  rw [hadd, cell_of_heap hb]
  simpa using hu
 obtain ⟨v', w', hr, h2, h3, _, h5⟩ := run_append_own_at (P := P) w 0 t o.type e i z size bytes ht hi hz hs1 hb1 hzs hsz v n xs hown ⟨xb, 0, none⟩ m c news hl hnews h1 (by unfold maxLen; omega) h63 (Nat.zero_le _); unfold Oper.wp execOp; simp only [ho, resolve, invoke, builtin, Sem.run_bind, Sem.run_pure, Result.andThen_ok, List.map_toArray, List.map_cons, List.map_nil, hs, hx, hr]; exact h v' w' h2 h3 h5
end
end Go.Cz
namespace Go.Proofs.YtoeknmkephnekaaGreatDoor
open Go.RowKit Go.Cz
def Bk (W : World) (B : Nat) (cs : Array Value) (t : TypeId) : Prop := W.heap[B]? = some (.cells cs t (0, 0))
section
variable {W W' : World} {B : Nat} {cs : Array Value} {t : TypeId}
theorem Bk.lt (h : Bk W B cs t) : B < W.heap.size := lt_of_block h
theorem Bk.new (W : World) (cs : Array Value) (t : TypeId) : Bk (W.alloc (.cells cs t)) W.heap.size cs t := new_heap _ _ _ rfl
theorem Bk.alloc (h : Bk W B cs t) (o : Obj) : Bk (W.alloc o) B cs t := (Below.heap_alloc W o B h.lt).trans h
theorem Bk.below (h : Bk W B cs t) (hb : Below W.heap.size W W') : Bk W' B cs t := (hb.block B h.lt).trans h
theorem Bk.cell (h : Bk W B cs t) (i : Nat) : W.cell? ⟨B, i, none⟩ = cs[i]? := cell_of_heap h
theorem Bk.free (h : Bk W B cs t) (i : Nat) : W.frozen? ⟨B, i, none⟩ = false := free_of_heap h
theorem Bk.set (h : Bk W B cs t) (i : Nat) (v : Value) : Bk (W.setCell ⟨B, i, none⟩ v) B (cs.setIfInBounds i v) t := setCell_heap h v
end
end Go.Proofs.YtoeknmkephnekaaGreatDoor
namespace Go.Cz
open Go.RowKit
structure Piece where
 lies : World -> List Nat -> Prop
 lt : ∀ {w : World} {S : List Nat}, lies w S -> ∀ k ∈ S, k < w.heap.size
 keep : ∀ {w w' : World} {S T : List Nat}, lies w S -> Mod T w w' -> (∀ k ∈ S, k ∉ T) -> lies w' S
def Has (w0 w : World) : List Piece -> List Nat -> Prop
 | [], _ => True
 | P :: ps, U => ∃ S, P.lies w S /\ (∀ k ∈ S, w0.heap.size <= k /\ k ∉ U) /\ Has w0 w ps (S ++ U)
def Owns (w0 w : World) (ps : List Piece) : Prop := Below w0.heap.size w0 w /\ Has w0 w ps []
theorem Has.mono {w0 w : World} : ∀ {ps : List Piece} {U V : List Nat}, Has w0 w ps U -> (∀ k ∈ V, k ∈ U ∨ w.heap.size <= k) -> Has w0 w ps V
 | [], _, _, _, _ => trivial
 | P :: ps, U, V, ⟨S, h1, h2, h3⟩, hv => ⟨S, h1, fun k hk => ⟨(h2 k hk).1, fun hx => by
   rcases hv k hx with h | h
   ·exact (h2 k hk).2 h
   ·have := P.lt h1 k hk; omega⟩, Has.mono (ps := ps) h3 fun k hk => by
   rcases List.mem_append.1 hk with h | h
   ·exact .inl (List.mem_append.2 (.inl h))
   ·rcases hv k h with h | h
    ·exact .inl (List.mem_append.2 (.inr h))
    ·exact .inr h⟩
theorem Has.keep {w0 w w' : World} {T : List Nat} (hm : Mod T w w') : ∀ {ps : List Piece} {U : List Nat}, Has w0 w ps U -> (∀ k ∈ T, k ∈ U ∨ w.heap.size <= k) -> Has w0 w' ps U
 | [], _, _, _ => trivial
 | P :: ps, U, ⟨S, h1, h2, h3⟩, ht => by
  have hd : ∀ k ∈ S, k ∉ T := fun k hk hx => by
   rcases ht k hx with h | h
   ·exact (h2 k hk).2 h
   ·have := P.lt h1 k hk; omega
  exact ⟨S, P.keep h1 hm hd, h2, Has.keep hm h3 fun k hk => by
   rcases ht k hk with h | h
   ·exact .inl (List.mem_append.2 (.inr h))
   ·exact .inr h⟩
theorem toBelow' {S : List Nat} {w0 w w' : World} (h : Mod S w w') (hb : Below w0.heap.size w0 w) (hS : ∀ k ∈ S, w0.heap.size <= k) : Below w0.heap.size w0 w' :=
 ⟨h.os.trans hb.os, h.tape.trans hb.tape, h.output.trans hb.output, Nat.le_trans hb.size h.size, fun k hk => (h.block k (Nat.lt_of_lt_of_le hk hb.size) (fun hx => by have := hS k hx; omega)).trans (hb.block k hk)⟩
theorem Owns.base {w0 w : World} {ps : List Piece} (h : Owns w0 w ps) : Below w0.heap.size w0 w := h.1
theorem Owns.start (w : World) : Owns w w [] := ⟨Below.refl _ _, trivial⟩
theorem Owns.below {w0 w w' : World} {ps : List Piece} (h : Owns w0 w ps) (hb : Below w.heap.size w w') : Owns w0 w' ps :=
 ⟨h.1.trans (hb.mono h.1.size), h.2.keep (T := []) ((Mod.ofBelow hb [])) (by simp)⟩
theorem Owns.alloc {w0 w : World} {ps : List Piece} (h : Owns w0 w ps) (o : Obj) : Owns w0 (w.alloc o) ps := h.below (by exact (Below.refl _ _).alloc (Nat.le_refl _) _)
theorem Owns.drew {w0 w : World} {ps : List Piece} (h : Owns w0 w ps) : Owns w0 w.drew ps := h.below (Below.refl _ _).drew
theorem Owns.open {w0 w : World} {P : Piece} {ps : List Piece} (h : Owns w0 w (P :: ps)) : ∃ S, P.lies w S /\ (∀ k ∈ S, w0.heap.size <= k) /\
  ∀ (w' : World) (Q : Piece) (S' : List Nat), Q.lies w' S' -> Mod S w w' -> (∀ k ∈ S', k ∈ S ∨ w.heap.size <= k) -> Owns w0 w' (Q :: ps) := by
 obtain ⟨hb, S, h1, h2, h3⟩ := h; refine ⟨S, h1, fun k hk => (h2 k hk).1, fun w' Q S' h4 hm h5 => ?_⟩; refine ⟨toBelow' hm hb fun k hk => (h2 k hk).1, S', h4, fun k hk => ⟨?_, by simp⟩, ?_⟩
 ·rcases h5 k hk with h | h
  ·exact (h2 k h).1
  ·exact Nat.le_trans hb.size h
 ·have h6 : Has w0 w ps (S ++ (S' ++ [])) := h3.mono fun k hk => by
   rcases List.mem_append.1 hk with h | h
   ·exact .inl (List.mem_append.2 (.inl h))
   ·rcases List.mem_append.1 h with h | h
    ·rcases h5 k h with h | h
     ·exact .inl (List.mem_append.2 (.inl h))
     ·exact .inr h
    ·simp at h
  exact (h6.keep hm fun k hk => .inl (List.mem_append.2 (.inl hk))).mono fun k hk => .inl (List.mem_append.2 (.inr hk))
theorem Owns.push {w0 w w' : World} {Q : Piece} {ps : List Piece} (h : Owns w0 w ps) {S : List Nat} (hq : Q.lies w' S) (hb : Below w.heap.size w w') (hn : ∀ k ∈ S, w.heap.size <= k) : Owns w0 w' (Q :: ps) := by
 obtain ⟨h1, h2⟩ := h; refine ⟨h1.trans (hb.mono h1.size), S, hq, fun k hk => ⟨Nat.le_trans h1.size (hn k hk), by simp⟩, ?_⟩; have h3 : Has w0 w ps (S ++ []) := h2.mono fun k hk => .inr (hn k (by simpa using hk)); exact h3.keep (T := []) (Mod.ofBelow hb []) (by simp)
theorem Owns.pop {w0 w : World} {P : Piece} {ps : List Piece} (h : Owns w0 w (P :: ps)) : Owns w0 w ps := by
 obtain ⟨h1, S, _, _, h2⟩ := h; exact ⟨h1, h2.mono (by simp)⟩
theorem Owns.swap {w0 w : World} {P Q : Piece} {ps : List Piece} (h : Owns w0 w (P :: Q :: ps)) : Owns w0 w (Q :: P :: ps) := by
 obtain ⟨h1, S, h2, h3, S', h4, h5, h6⟩ := h; refine ⟨h1, S', h4, fun k hk => ⟨(h5 k hk).1, by simp⟩, S, h2, fun k hk => ⟨(h3 k hk).1, fun hx => ?_⟩, h6.mono fun k hk => ?_⟩
 ·have hx : k ∈ S' := by simpa using hx
  exact (h5 k hx).2 (by simpa using hk)
 ·simp only [List.append_nil, List.mem_append] at hk ⊢; exact .inl hk.symm
theorem Owns.rot {w0 w : World} {P Q R : Piece} {ps : List Piece} (h : Owns w0 w (P :: Q :: R :: ps)) : Owns w0 w (R :: P :: Q :: ps) := by
 have hq : Owns w0 w (Q :: R :: ps) := h.pop; obtain ⟨h1, S, h2, h3, S', h4, h5, S2, h6, h7, h8⟩ := h; refine ⟨h1, S2, h6, fun k hk => ⟨(h7 k hk).1, by simp⟩, S, h2, fun k hk => ⟨(h3 k hk).1, fun hx => ?_⟩, S', h4, fun k hk => ⟨(h5 k hk).1, fun hx => ?_⟩, h8.mono fun k hk => ?_⟩
 ·have hx : k ∈ S2 := by simpa using hx
  exact (h7 k hx).2 (by simp [hk])
 ·simp only [List.append_nil, List.mem_append] at hx; rcases hx with hx | hx
  ·exact (h5 k hk).2 (by simpa using hx)
  ·exact (h7 k hx).2 (by simp [hk])
 ·simp only [List.append_nil, List.mem_append] at hk ⊢; rcases hk with h | h | h
  ·exact .inl (.inr (.inl h))
  ·exact .inl (.inr (.inr h))
  ·exact .inl (.inl h)
theorem Has.perm {w0 w : World} {ps qs : List Piece} (h : ps.Perm qs) : ∀ {U : List Nat}, Has w0 w ps U -> Has w0 w qs U := by
 induction h with
 | nil => exact fun h => h
 | cons P _ ih => exact fun ⟨S, h1, h2, h3⟩ => ⟨S, h1, h2, ih h3⟩
 | swap P Q ps =>
  rintro U ⟨S, h2, h3, S', h4, h5, h6⟩; refine ⟨S', h4, fun k hk => ⟨(h5 k hk).1, fun hx => (h5 k hk).2 (List.mem_append.2 (.inr hx))⟩, S, h2, fun k hk => ⟨(h3 k hk).1, fun hx => ?_⟩, h6.mono fun k hk => ?_⟩
  ·rcases List.mem_append.1 hx with hx | hx
   ·exact (h5 k hx).2 (List.mem_append.2 (.inl hk))
   ·exact (h3 k hk).2 hx
  ·simp only [List.mem_append] at hk ⊢; rcases hk with h | h | h
   ·exact .inl (.inr (.inl h))
   ·exact .inl (.inl h)
   ·exact .inl (.inr (.inr h))
 | trans _ _ ih1 ih2 => exact fun h => ih2 (ih1 h)
theorem Owns.perm {w0 w : World} {ps qs : List Piece} (h : Owns w0 w ps) (hp : ps.Perm qs) : Owns w0 w qs := ⟨h.1, h.2.perm hp⟩
theorem Owns.rot4 {w0 w : World} {P Q R T : Piece} {ps : List Piece} (h : Owns w0 w (P :: Q :: R :: T :: ps)) : Owns w0 w (T :: P :: Q :: R :: ps) := h.perm (List.perm_middle (l₁ := [P, Q, R]))
theorem Owns.first {w0 w : World} {P : Piece} {ps : List Piece} (h : Owns w0 w (P :: ps)) : ∃ S, P.lies w S /\ ∀ k ∈ S, w0.heap.size <= k := by
 obtain ⟨_, S, h1, h2, _⟩ := h; exact ⟨S, h1, fun k hk => (h2 k hk).1⟩
def blk (g : Nat) (o : Obj) : Piece where
 lies w S := S = [g] /\ w.heap[g]? = some o
 lt := by rintro w S ⟨rfl, h⟩ k hk; simp at hk; subst hk; exact lt_of_block h
 keep := by rintro w w' S T ⟨rfl, h⟩ hm hd; exact ⟨rfl, hm.heap h (hd g (by simp))⟩
theorem Owns.box {w0 w : World} {ps : List Piece} (h : Owns w0 w ps) (o : Obj) : Owns w0 (w.alloc o) (blk w.heap.size o :: ps) :=
 h.push (S := [w.heap.size]) ⟨rfl, new_heap w o _ rfl⟩ ((Below.refl _ _).alloc (Nat.le_refl _) _) (by simp)
theorem Owns.blk {w0 w : World} {ps : List Piece} {g : Nat} {o : Obj} (h : Owns w0 w (blk g o :: ps)) : w.heap[g]? = some o /\ w0.heap.size <= g := by
 obtain ⟨S, ⟨rfl, h1⟩, h2⟩ := h.first; exact ⟨h1, h2 g (by simp)⟩
theorem Owns.store {w0 w : World} {ps : List Piece} {g i : Nat} {cs : Array Value} {t : TypeId} {fr : Nat × Nat} (h : Owns w0 w (Cz.blk g (.cells cs t fr) :: ps)) (v : Value) :
  Owns w0 (w.setCell ⟨g, i, none⟩ v) (Cz.blk g (.cells (cs.setIfInBounds i v) t fr) :: ps) := by
 obtain ⟨S, ⟨rfl, h1⟩, _, hf⟩ := h.open; exact hf _ _ [g] ⟨rfl, setCell_heap h1 v⟩ ((Mod.refl _ _).setCell (.inl (by simp)) v) fun k hk => .inl hk
theorem st4 {w0 w : World} {ps : List Piece} {g : Nat} {cs : Array Value} {t : TypeId} {fr : Nat × Nat} (h : Owns w0 w (Cz.blk g (.cells cs t fr) :: ps)) (v0 v1 v2 v3 : Value) : Owns w0 ((((w.setCell ⟨g, 0, none⟩ v0).setCell ⟨g, 1, none⟩ v1).setCell ⟨g, 2, none⟩ v2).setCell ⟨g, 3, none⟩ v3) (Cz.blk g (.cells ((((cs.setIfInBounds 0 v0).setIfInBounds 1 v1).setIfInBounds 2 v2).setIfInBounds 3 v3) t fr) :: ps) := (Owns.store (Owns.store (Owns.store (Owns.store h (i := 0) v0) (i := 1) v1) (i := 2) v2) (i := 3) v3)
theorem st5 {w0 w : World} {ps : List Piece} {g : Nat} {cs : Array Value} {t : TypeId} {fr : Nat × Nat} (h : Owns w0 w (Cz.blk g (.cells cs t fr) :: ps)) (v0 v1 v2 v3 v4 : Value) : Owns w0 (((((w.setCell ⟨g, 0, none⟩ v0).setCell ⟨g, 1, none⟩ v1).setCell ⟨g, 2, none⟩ v2).setCell ⟨g, 3, none⟩ v3).setCell ⟨g, 4, none⟩ v4) (Cz.blk g (.cells (((((cs.setIfInBounds 0 v0).setIfInBounds 1 v1).setIfInBounds 2 v2).setIfInBounds 3 v3).setIfInBounds 4 v4) t fr) :: ps) := (Owns.store (Owns.store (Owns.store (Owns.store (Owns.store h (i := 0) v0) (i := 1) v1) (i := 2) v2) (i := 3) v3) (i := 4) v4)
end Go.Cz
namespace Go.Cz
open Go.RowKit
structure ORow (e : TypeId) (size : Nat) (V wr : World) (v : Value) (n : Nat) (xs : List Value) : Prop where
 row : wr.ownsRow 0 e size v n xs
 new : ∀ k, v.ownBlock = some k -> V.heap.size <= k
 below : Below V.heap.size V wr
section
variable {e : TypeId} {size : Nat} {V wr w1 w2 W : World} {v v' : Value} {n m : Nat} {xs ys : List Value}
theorem ORow.nil (hb : Below V.heap.size V wr) : ORow e size V wr (.slice none 0 0) 0 [] :=
 ⟨⟨by simp, .inl ⟨rfl, rfl⟩⟩, fun k hk => (by cases hk), hb⟩
theorem ownsRow_keep {b : Nat} (h : wr.ownsRow b e size v n xs) (hb : Below wr.heap.size wr W) : W.ownsRow b e size v n xs := by
 refine ⟨h.1, ?_⟩; rcases h.2 with h0 | ⟨g, cap, cur, h1, h2, h3, h4⟩
 ·exact .inl h0
 ·exact .inr ⟨g, cap, cur, h1, h2, (hb.block g (lt_of_block h3)).trans h3, h4⟩
theorem ORow.keep (h : ORow e size V wr v n xs) (hb : Below wr.heap.size wr W) : ORow e size V W v n xs :=
 ⟨ownsRow_keep h.row hb, h.new, h.below.trans (hb.mono h.below.size)⟩
theorem ORow.step (h : ORow e size V wr v n xs) (hrow : W.ownsRow 0 e size v' m ys) (hgrow : wr.grownBy W v.ownBlock) (hblk : v'.ownBlock = v.ownBlock ∨ v'.ownBlock = some wr.heap.size) : ORow e size V W v' m ys := by
 refine ⟨hrow, fun k hk => ?_, h.below.grown hgrow h.below.size h.new⟩; rcases hblk with e | e
 ·exact h.new k (by rw [<- e]; exact hk)
 ·rw [e] at hk; cases hk
  exact h.below.size
theorem ORow.form (h : ORow e size V wr v n xs) : ∃ a c, v = .slice a n c := by
 rcases h.row.2 with ⟨h1, h2⟩ | ⟨g, c, cur, h1, -⟩
 ·exact ⟨none, 0, by rw [h1, h2]⟩
 ·exact ⟨_, c, h1⟩
theorem ORow.at (h : ORow e size V wr v n xs) : (v = .slice none 0 0 /\ n = 0) ∨ ∃ g c, v = .slice (some ⟨g, 0, none⟩) n c /\ n <= c /\ V.heap.size <= g /\ g < wr.heap.size /\ ∀ (j : Nat) (x : Value), xs[j]? = some x -> wr.cell? ⟨g, j, none⟩ = some x := by
 rcases h.row.2 with h0 | ⟨g, c, cur, rfl, h2, h3, h4, h5, h6, h7⟩
 ·exact .inl h0
 ·refine .inr ⟨g, c, rfl, h4, h.new g rfl, lt_of_block h3, fun j x hx => ?_⟩; rw [cell_of_heap h3]; rw [<- h7, List.getElem?_take] at hx
  split at hx
  ·simpa using hx
  ·cases hx
end
end Go.Cz
namespace Go.Cz
open Go.RowKit
section
variable {P : Program}
theorem wp_append_at {o : Oper} {a : Act} {K : Act -> World -> Prop} {Q : Exit -> Act -> World -> Prop} {w : World} (s x : Operand) (t : TypeId)
  (ho : o.op = .call { callee := .builtin .append, args := #[s, x], argTypes := #[t, t] })
  (e : TypeId) (z : Value) (size bytes : Nat) (ht : P.underlying t = some (.slice e)) (hinfo : (P.info? e).map (fun i => (i.zero, i.size, i.bytes)) = some (some z, size, bytes))
  (hzs : z.cells.size = size) (hsz : 0 < size)
  (v : Value) (n : Nat) (xs : List Value) (hs : a.eval s = v) (hown : w.ownsRow 0 e size v n xs)
  (xb off c m : Nat) (news : List Value) (hx : a.eval x = .slice (some ⟨xb, off, none⟩) m c) (hl : news.length = m * size) (hb : ∀ (j : Nat) (u : Value), news[j]? = some u -> w.cell? ⟨xb, off + j, none⟩ = some u) (h1 : ∀ u ∈ news, u.oneCell' = true)
  (h63 : (n + m) * bytes <= 140737488355328) (h64 : n + m <= 140737488355328)
  (h : ∀ v' w', w'.ownsRow 0 e size v' (n + m) (xs ++ news) -> w.grownBy w' v.ownBlock -> (v'.ownBlock = v.ownBlock ∨ v'.ownBlock = some w.heap.size) -> K (a.put o.dst v') w') : o.wp P a w K Q := by
 obtain ⟨i, hi, hz, hs1, hb1⟩ := info_parts hinfo; have hnews : ∀ j u, news[j]? = some u -> w.cell? ((⟨xb, off, none⟩ : Addr).add j) = some u := by
  intro j u hu; have hadd : (⟨xb, off, none⟩ : Addr).add j = ⟨xb, off + j, none⟩ := by unfold Addr.add; split <;> simp_all
  rw [hadd]; exact hb j u hu
 obtain ⟨v', w', hr, h2, h3, _, h5⟩ := run_append_own_at (P := P) w 0 t o.type e i z size bytes ht hi hz hs1 hb1 hzs hsz v n xs hown ⟨xb, off, none⟩ m c news hl hnews h1 (by unfold maxLen; omega) h63 (Nat.zero_le _); unfold Oper.wp execOp; simp only [ho, resolve, invoke, builtin, Sem.run_bind, Sem.run_pure, Result.andThen_ok, List.map_toArray, List.map_cons, List.map_nil, hs, hx, hr]; exact h v' w' h2 h3 h5
end
end Go.Cz
namespace Go
open Go.RowKit Go.Cz
theorem bx1 {Z : Prop} {W : World} {b : Nat} {v0 : Value} {r : List Value} {t : TypeId} (h : W.heap[b]? = some (.cells (List.toArray (v0 :: r)) t (0, 0)) ∧ Z) : b < W.heap.size ∧ W.frozen? ⟨b, 0, none⟩ = false ∧ W.cell? ⟨b, 0, none⟩ = some v0 :=
 ⟨lt_of_block h.1, free_of_heap h.1, (cell_of_heap h.1).trans rfl⟩
theorem bx2 {Z : Prop} {W : World} {b : Nat} {v0 v1 : Value} {r : List Value} {t : TypeId} (h : W.heap[b]? = some (.cells (List.toArray (v0 :: v1 :: r)) t (0, 0)) ∧ Z) : b < W.heap.size ∧ (W.frozen? ⟨b, 0, none⟩ = false ∧ W.frozen? ⟨b, 1, none⟩ = false) ∧ W.cell? ⟨b, 0, none⟩ = some v0 ∧ W.cell? ⟨b, 1, none⟩ = some v1 :=
 ⟨lt_of_block h.1, ⟨free_of_heap h.1, free_of_heap h.1⟩, (cell_of_heap h.1).trans rfl, (cell_of_heap h.1).trans rfl⟩
theorem bx3 {Z : Prop} {W : World} {b : Nat} {v0 v1 v2 : Value} {r : List Value} {t : TypeId} (h : W.heap[b]? = some (.cells (List.toArray (v0 :: v1 :: v2 :: r)) t (0, 0)) ∧ Z) : b < W.heap.size ∧ (W.frozen? ⟨b, 0, none⟩ = false ∧ W.frozen? ⟨b, 1, none⟩ = false ∧ W.frozen? ⟨b, 2, none⟩ = false) ∧ W.cell? ⟨b, 0, none⟩ = some v0 ∧ W.cell? ⟨b, 1, none⟩ = some v1 ∧ W.cell? ⟨b, 2, none⟩ = some v2 :=
 ⟨lt_of_block h.1, ⟨free_of_heap h.1, free_of_heap h.1, free_of_heap h.1⟩, (cell_of_heap h.1).trans rfl, (cell_of_heap h.1).trans rfl, (cell_of_heap h.1).trans rfl⟩
theorem bx4 {Z : Prop} {W : World} {b : Nat} {v0 v1 v2 v3 : Value} {r : List Value} {t : TypeId} (h : W.heap[b]? = some (.cells (List.toArray (v0 :: v1 :: v2 :: v3 :: r)) t (0, 0)) ∧ Z) : b < W.heap.size ∧ (W.frozen? ⟨b, 0, none⟩ = false ∧ W.frozen? ⟨b, 1, none⟩ = false ∧ W.frozen? ⟨b, 2, none⟩ = false ∧ W.frozen? ⟨b, 3, none⟩ = false) ∧ W.cell? ⟨b, 0, none⟩ = some v0 ∧ W.cell? ⟨b, 1, none⟩ = some v1 ∧ W.cell? ⟨b, 2, none⟩ = some v2 ∧ W.cell? ⟨b, 3, none⟩ = some v3 :=
 ⟨lt_of_block h.1, ⟨free_of_heap h.1, free_of_heap h.1, free_of_heap h.1, free_of_heap h.1⟩, (cell_of_heap h.1).trans rfl, (cell_of_heap h.1).trans rfl, (cell_of_heap h.1).trans rfl, (cell_of_heap h.1).trans rfl⟩
theorem bx5 {Z : Prop} {W : World} {b : Nat} {v0 v1 v2 v3 v4 : Value} {r : List Value} {t : TypeId} (h : W.heap[b]? = some (.cells (List.toArray (v0 :: v1 :: v2 :: v3 :: v4 :: r)) t (0, 0)) ∧ Z) : b < W.heap.size ∧ (W.frozen? ⟨b, 0, none⟩ = false ∧ W.frozen? ⟨b, 1, none⟩ = false ∧ W.frozen? ⟨b, 2, none⟩ = false ∧ W.frozen? ⟨b, 3, none⟩ = false ∧ W.frozen? ⟨b, 4, none⟩ = false) ∧ W.cell? ⟨b, 0, none⟩ = some v0 ∧ W.cell? ⟨b, 1, none⟩ = some v1 ∧ W.cell? ⟨b, 2, none⟩ = some v2 ∧ W.cell? ⟨b, 3, none⟩ = some v3 ∧ W.cell? ⟨b, 4, none⟩ = some v4 :=
 ⟨lt_of_block h.1, ⟨free_of_heap h.1, free_of_heap h.1, free_of_heap h.1, free_of_heap h.1, free_of_heap h.1⟩, (cell_of_heap h.1).trans rfl, (cell_of_heap h.1).trans rfl, (cell_of_heap h.1).trans rfl, (cell_of_heap h.1).trans rfl, (cell_of_heap h.1).trans rfl⟩
theorem bx7 {Z : Prop} {W : World} {b : Nat} {v0 v1 v2 v3 v4 v5 v6 : Value} {r : List Value} {t : TypeId} (h : W.heap[b]? = some (.cells (List.toArray (v0 :: v1 :: v2 :: v3 :: v4 :: v5 :: v6 :: r)) t (0, 0)) ∧ Z) : b < W.heap.size ∧ (W.frozen? ⟨b, 0, none⟩ = false ∧ W.frozen? ⟨b, 1, none⟩ = false ∧ W.frozen? ⟨b, 2, none⟩ = false ∧ W.frozen? ⟨b, 3, none⟩ = false ∧ W.frozen? ⟨b, 4, none⟩ = false ∧ W.frozen? ⟨b, 5, none⟩ = false ∧ W.frozen? ⟨b, 6, none⟩ = false) ∧ W.cell? ⟨b, 0, none⟩ = some v0 ∧ W.cell? ⟨b, 1, none⟩ = some v1 ∧ W.cell? ⟨b, 2, none⟩ = some v2 ∧ W.cell? ⟨b, 3, none⟩ = some v3 ∧ W.cell? ⟨b, 4, none⟩ = some v4 ∧ W.cell? ⟨b, 5, none⟩ = some v5 ∧ W.cell? ⟨b, 6, none⟩ = some v6 :=
 ⟨lt_of_block h.1, ⟨free_of_heap h.1, free_of_heap h.1, free_of_heap h.1, free_of_heap h.1, free_of_heap h.1, free_of_heap h.1, free_of_heap h.1⟩, (cell_of_heap h.1).trans rfl, (cell_of_heap h.1).trans rfl, (cell_of_heap h.1).trans rfl, (cell_of_heap h.1).trans rfl, (cell_of_heap h.1).trans rfl, (cell_of_heap h.1).trans rfl, (cell_of_heap h.1).trans rfl⟩
theorem bx9 {Z : Prop} {W : World} {b : Nat} {v0 v1 v2 v3 v4 v5 v6 v7 v8 : Value} {r : List Value} {t : TypeId} (h : W.heap[b]? = some (.cells (List.toArray (v0 :: v1 :: v2 :: v3 :: v4 :: v5 :: v6 :: v7 :: v8 :: r)) t (0, 0)) ∧ Z) : b < W.heap.size ∧ (W.frozen? ⟨b, 0, none⟩ = false ∧ W.frozen? ⟨b, 1, none⟩ = false ∧ W.frozen? ⟨b, 2, none⟩ = false ∧ W.frozen? ⟨b, 3, none⟩ = false ∧ W.frozen? ⟨b, 4, none⟩ = false ∧ W.frozen? ⟨b, 5, none⟩ = false ∧ W.frozen? ⟨b, 6, none⟩ = false ∧ W.frozen? ⟨b, 7, none⟩ = false ∧ W.frozen? ⟨b, 8, none⟩ = false) ∧ W.cell? ⟨b, 0, none⟩ = some v0 ∧ W.cell? ⟨b, 1, none⟩ = some v1 ∧ W.cell? ⟨b, 2, none⟩ = some v2 ∧ W.cell? ⟨b, 3, none⟩ = some v3 ∧ W.cell? ⟨b, 4, none⟩ = some v4 ∧ W.cell? ⟨b, 5, none⟩ = some v5 ∧ W.cell? ⟨b, 6, none⟩ = some v6 ∧ W.cell? ⟨b, 7, none⟩ = some v7 ∧ W.cell? ⟨b, 8, none⟩ = some v8 :=
 ⟨lt_of_block h.1, ⟨free_of_heap h.1, free_of_heap h.1, free_of_heap h.1, free_of_heap h.1, free_of_heap h.1, free_of_heap h.1, free_of_heap h.1, free_of_heap h.1, free_of_heap h.1⟩, (cell_of_heap h.1).trans rfl, (cell_of_heap h.1).trans rfl, (cell_of_heap h.1).trans rfl, (cell_of_heap h.1).trans rfl, (cell_of_heap h.1).trans rfl, (cell_of_heap h.1).trans rfl, (cell_of_heap h.1).trans rfl, (cell_of_heap h.1).trans rfl, (cell_of_heap h.1).trans rfl⟩
theorem bx10 {Z : Prop} {W : World} {b : Nat} {v0 v1 v2 v3 v4 v5 v6 v7 v8 v9 : Value} {r : List Value} {t : TypeId} (h : W.heap[b]? = some (.cells (List.toArray (v0 :: v1 :: v2 :: v3 :: v4 :: v5 :: v6 :: v7 :: v8 :: v9 :: r)) t (0, 0)) ∧ Z) : b < W.heap.size ∧ (W.frozen? ⟨b, 0, none⟩ = false ∧ W.frozen? ⟨b, 1, none⟩ = false ∧ W.frozen? ⟨b, 2, none⟩ = false ∧ W.frozen? ⟨b, 3, none⟩ = false ∧ W.frozen? ⟨b, 4, none⟩ = false ∧ W.frozen? ⟨b, 5, none⟩ = false ∧ W.frozen? ⟨b, 6, none⟩ = false ∧ W.frozen? ⟨b, 7, none⟩ = false ∧ W.frozen? ⟨b, 8, none⟩ = false ∧ W.frozen? ⟨b, 9, none⟩ = false) ∧ W.cell? ⟨b, 0, none⟩ = some v0 ∧ W.cell? ⟨b, 1, none⟩ = some v1 ∧ W.cell? ⟨b, 2, none⟩ = some v2 ∧ W.cell? ⟨b, 3, none⟩ = some v3 ∧ W.cell? ⟨b, 4, none⟩ = some v4 ∧ W.cell? ⟨b, 5, none⟩ = some v5 ∧ W.cell? ⟨b, 6, none⟩ = some v6 ∧ W.cell? ⟨b, 7, none⟩ = some v7 ∧ W.cell? ⟨b, 8, none⟩ = some v8 ∧ W.cell? ⟨b, 9, none⟩ = some v9 :=
 ⟨lt_of_block h.1, ⟨free_of_heap h.1, free_of_heap h.1, free_of_heap h.1, free_of_heap h.1, free_of_heap h.1, free_of_heap h.1, free_of_heap h.1, free_of_heap h.1, free_of_heap h.1, free_of_heap h.1⟩, (cell_of_heap h.1).trans rfl, (cell_of_heap h.1).trans rfl, (cell_of_heap h.1).trans rfl, (cell_of_heap h.1).trans rfl, (cell_of_heap h.1).trans rfl, (cell_of_heap h.1).trans rfl, (cell_of_heap h.1).trans rfl, (cell_of_heap h.1).trans rfl, (cell_of_heap h.1).trans rfl, (cell_of_heap h.1).trans rfl⟩
theorem bx11 {Z : Prop} {W : World} {b : Nat} {v0 v1 v2 v3 v4 v5 v6 v7 v8 v9 v10 : Value} {r : List Value} {t : TypeId} (h : W.heap[b]? = some (.cells (List.toArray (v0 :: v1 :: v2 :: v3 :: v4 :: v5 :: v6 :: v7 :: v8 :: v9 :: v10 :: r)) t (0, 0)) ∧ Z) : b < W.heap.size ∧ (W.frozen? ⟨b, 0, none⟩ = false ∧ W.frozen? ⟨b, 1, none⟩ = false ∧ W.frozen? ⟨b, 2, none⟩ = false ∧ W.frozen? ⟨b, 3, none⟩ = false ∧ W.frozen? ⟨b, 4, none⟩ = false ∧ W.frozen? ⟨b, 5, none⟩ = false ∧ W.frozen? ⟨b, 6, none⟩ = false ∧ W.frozen? ⟨b, 7, none⟩ = false ∧ W.frozen? ⟨b, 8, none⟩ = false ∧ W.frozen? ⟨b, 9, none⟩ = false ∧ W.frozen? ⟨b, 10, none⟩ = false) ∧ W.cell? ⟨b, 0, none⟩ = some v0 ∧ W.cell? ⟨b, 1, none⟩ = some v1 ∧ W.cell? ⟨b, 2, none⟩ = some v2 ∧ W.cell? ⟨b, 3, none⟩ = some v3 ∧ W.cell? ⟨b, 4, none⟩ = some v4 ∧ W.cell? ⟨b, 5, none⟩ = some v5 ∧ W.cell? ⟨b, 6, none⟩ = some v6 ∧ W.cell? ⟨b, 7, none⟩ = some v7 ∧ W.cell? ⟨b, 8, none⟩ = some v8 ∧ W.cell? ⟨b, 9, none⟩ = some v9 ∧ W.cell? ⟨b, 10, none⟩ = some v10 :=
 ⟨lt_of_block h.1, ⟨free_of_heap h.1, free_of_heap h.1, free_of_heap h.1, free_of_heap h.1, free_of_heap h.1, free_of_heap h.1, free_of_heap h.1, free_of_heap h.1, free_of_heap h.1, free_of_heap h.1, free_of_heap h.1⟩, (cell_of_heap h.1).trans rfl, (cell_of_heap h.1).trans rfl, (cell_of_heap h.1).trans rfl, (cell_of_heap h.1).trans rfl, (cell_of_heap h.1).trans rfl, (cell_of_heap h.1).trans rfl, (cell_of_heap h.1).trans rfl, (cell_of_heap h.1).trans rfl, (cell_of_heap h.1).trans rfl, (cell_of_heap h.1).trans rfl, (cell_of_heap h.1).trans rfl⟩
theorem bx12 {Z : Prop} {W : World} {b : Nat} {v0 v1 v2 v3 v4 v5 v6 v7 v8 v9 v10 v11 : Value} {r : List Value} {t : TypeId} (h : W.heap[b]? = some (.cells (List.toArray (v0 :: v1 :: v2 :: v3 :: v4 :: v5 :: v6 :: v7 :: v8 :: v9 :: v10 :: v11 :: r)) t (0, 0)) ∧ Z) : b < W.heap.size ∧ (W.frozen? ⟨b, 0, none⟩ = false ∧ W.frozen? ⟨b, 1, none⟩ = false ∧ W.frozen? ⟨b, 2, none⟩ = false ∧ W.frozen? ⟨b, 3, none⟩ = false ∧ W.frozen? ⟨b, 4, none⟩ = false ∧ W.frozen? ⟨b, 5, none⟩ = false ∧ W.frozen? ⟨b, 6, none⟩ = false ∧ W.frozen? ⟨b, 7, none⟩ = false ∧ W.frozen? ⟨b, 8, none⟩ = false ∧ W.frozen? ⟨b, 9, none⟩ = false ∧ W.frozen? ⟨b, 10, none⟩ = false ∧ W.frozen? ⟨b, 11, none⟩ = false) ∧ W.cell? ⟨b, 0, none⟩ = some v0 ∧ W.cell? ⟨b, 1, none⟩ = some v1 ∧ W.cell? ⟨b, 2, none⟩ = some v2 ∧ W.cell? ⟨b, 3, none⟩ = some v3 ∧ W.cell? ⟨b, 4, none⟩ = some v4 ∧ W.cell? ⟨b, 5, none⟩ = some v5 ∧ W.cell? ⟨b, 6, none⟩ = some v6 ∧ W.cell? ⟨b, 7, none⟩ = some v7 ∧ W.cell? ⟨b, 8, none⟩ = some v8 ∧ W.cell? ⟨b, 9, none⟩ = some v9 ∧ W.cell? ⟨b, 10, none⟩ = some v10 ∧ W.cell? ⟨b, 11, none⟩ = some v11 :=
 ⟨lt_of_block h.1, ⟨free_of_heap h.1, free_of_heap h.1, free_of_heap h.1, free_of_heap h.1, free_of_heap h.1, free_of_heap h.1, free_of_heap h.1, free_of_heap h.1, free_of_heap h.1, free_of_heap h.1, free_of_heap h.1, free_of_heap h.1⟩, (cell_of_heap h.1).trans rfl, (cell_of_heap h.1).trans rfl, (cell_of_heap h.1).trans rfl, (cell_of_heap h.1).trans rfl, (cell_of_heap h.1).trans rfl, (cell_of_heap h.1).trans rfl, (cell_of_heap h.1).trans rfl, (cell_of_heap h.1).trans rfl, (cell_of_heap h.1).trans rfl, (cell_of_heap h.1).trans rfl, (cell_of_heap h.1).trans rfl, (cell_of_heap h.1).trans rfl⟩
end Go
namespace Go.Proofs
open Go.Shelf Go.RowKit Go.Sort Go.Lib
def Tryz.lays137_ren : Go.Shelf.Ren := ⟨fun | 137 => 79 | 217 => 108 | 266 => 136 | n => n, fun | 9 => 9 | 5 => 5 | 3 => 3 | n => n, fun | n => n⟩
theorem Tryz.lays137 : Go.Proofs.Lays.n137 Tryz.prog Tryz.lays137_ren := {
 mixed := by kernel_rfl
 f137 := Tryz.func79.trans (congrArg some (by kernel_rfl))
 f217 := Tryz.func108.trans (congrArg some (by kernel_rfl))
 f266 := Tryz.func136.trans (congrArg some (by kernel_rfl))
 t3 := Tryz.underlying3
 a3 := Tryz.isAgg3
 z3 := Tryz.sizeOf3
 v3 := Tryz.zeroValue3
 t5 := Tryz.underlying5
 a5 := Tryz.isAgg5
 z5 := Tryz.sizeOf5
 v5 := Tryz.zeroValue5
 t9 := Tryz.underlying9
 a9 := Tryz.isAgg9
 z9 := Tryz.sizeOf9
 v9 := Tryz.zeroValue9 }
theorem Tryz.strings_IndexByte (s : ByteArray) (c : Int) (w : World) :
  Calls Tryz.prog 79 #[.string s, .int .u8 c] w fun e w' => e = .returned (.int .i64 (Lib.indexByte s.data.toList c.toNat.toUInt8)) /\ w' = w := Any.strings_IndexByte Tryz.lays137 s c w
def Tryz.laysC172_ren : Go.Shelf.Ren := ⟨fun | 172 => 80 | 244 => 109 | 245 => 110 | 247 => 137 | 279 => 138 | 280 => 139 | 281 => 140 | 282 => 141 | 287 => 155 | 316 => 156 | 171 => 29 | 205 => 157 | 321 => 161 | 322 => 162 | 243 => 70 | 246 => 102 | 283 => 127 | 284 => 128 | 285 => 129 | 286 => 130 | 129 => 149 | 317 => 148 | 318 => 150 | 319 => 151 | 320 => 152 | 337 => 159 | 338 => 160 | n => n, fun | 9 => 9 | 3 => 3 | 75 => 104 | 76 => 105 | 4 => 4 | 5 => 5 | 167 => 162 | 37 => 99 | 0 => 0 | 85 => 163 | 2 => 2 | 168 => 165 | 53 => 122 | 175 => 177 | 46 => 169 | 210 => 180 | 127 => 131 | 145 => 186 | 143 => 184 | 21 => 21 | 171 => 152 | 173 => 155 | 212 => 172 | 51 => 173 | 20 => 20 | 213 => 174 | 232 => 187 | 233 => 188 | 80 => 107 | n => n, fun | 15 => 2 | 16 => 3 | 17 => 0 | 18 => 4 | 19 => 5 | n => n⟩
theorem Tryz.laysC172 : Go.Proofs.LaysC.n172 Tryz.prog Tryz.laysC172_ren := {
 mixed := by kernel_rfl
 f129 := Tryz.func149.trans (congrArg some (by kernel_rfl))
 f171 := Tryz.func29.trans (congrArg some (by kernel_rfl))
 f172 := Tryz.func80.trans (congrArg some (by kernel_rfl))
 f205 := Tryz.func157.trans (congrArg some (by kernel_rfl))
 f243 := Tryz.func70.trans (congrArg some (by kernel_rfl))
 f244 := Tryz.func109.trans (congrArg some (by kernel_rfl))
 f245 := Tryz.func110.trans (congrArg some (by kernel_rfl))
 f246 := Tryz.func102.trans (congrArg some (by kernel_rfl))
 f247 := Tryz.func137.trans (congrArg some (by kernel_rfl))
 f279 := Tryz.func138.trans (congrArg some (by kernel_rfl))
 f280 := Tryz.func139.trans (congrArg some (by kernel_rfl))
 f281 := Tryz.func140.trans (congrArg some (by kernel_rfl))
 f282 := Tryz.func141.trans (congrArg some (by kernel_rfl))
 f283 := Tryz.func127.trans (congrArg some (by kernel_rfl))
 f284 := Tryz.func128.trans (congrArg some (by kernel_rfl))
 f285 := Tryz.func129.trans (congrArg some (by kernel_rfl))
 f286 := Tryz.func130.trans (congrArg some (by kernel_rfl))
 f287 := Tryz.func155.trans (congrArg some (by kernel_rfl))
 f316 := Tryz.func156.trans (congrArg some (by kernel_rfl))
 f317 := Tryz.func148.trans (congrArg some (by kernel_rfl))
 f318 := Tryz.func150.trans (congrArg some (by kernel_rfl))
 f319 := Tryz.func151.trans (congrArg some (by kernel_rfl))
 f320 := Tryz.func152.trans (congrArg some (by kernel_rfl))
 f321 := Tryz.func161.trans (congrArg some (by kernel_rfl))
 f322 := Tryz.func162.trans (congrArg some (by kernel_rfl))
 f337 := Tryz.func159.trans (congrArg some (by kernel_rfl))
 f338 := Tryz.func160.trans (congrArg some (by kernel_rfl))
 t0 := Tryz.underlying0
 a0 := Tryz.isAgg0
 z0 := Tryz.sizeOf0
 v0 := Tryz.zeroValue0
 t2 := Tryz.underlying2
 a2 := Tryz.isAgg2
 z2 := Tryz.sizeOf2
 v2 := Tryz.zeroValue2
 t3 := Tryz.underlying3
 a3 := Tryz.isAgg3
 z3 := Tryz.sizeOf3
 v3 := Tryz.zeroValue3
 t4 := Tryz.underlying4
 a4 := Tryz.isAgg4
 z4 := Tryz.sizeOf4
 v4 := Tryz.zeroValue4
 t5 := Tryz.underlying5
 a5 := Tryz.isAgg5
 z5 := Tryz.sizeOf5
 v5 := Tryz.zeroValue5
 t9 := Tryz.underlying9
 a9 := Tryz.isAgg9
 z9 := Tryz.sizeOf9
 v9 := Tryz.zeroValue9
 t20 := Tryz.underlying20
 a20 := Tryz.isAgg20
 z20 := Tryz.sizeOf20
 v20 := Tryz.zeroValue20
 t21 := Tryz.underlying21
 a21 := Tryz.isAgg21
 z21 := Tryz.sizeOf21
 v21 := Tryz.zeroValue21
 t37 := Tryz.underlying99
 a37 := Tryz.isAgg99
 z37 := Tryz.sizeOf99
 v37 := Tryz.zeroValue99
 t46 := Tryz.underlying169
 a46 := Tryz.isAgg169
 z46 := Tryz.sizeOf169
 v46 := Tryz.zeroValue169
 t51 := Tryz.underlying173
 a51 := Tryz.isAgg173
 z51 := Tryz.sizeOf173
 v51 := Tryz.zeroValue173
 t53 := Tryz.underlying122
 a53 := Tryz.isAgg122
 z53 := Tryz.sizeOf122
 v53 := Tryz.zeroValue122
 t75 := Tryz.underlying104
 a75 := Tryz.isAgg104
 z75 := Tryz.sizeOf104
 v75 := Tryz.zeroValue104
 t76 := Tryz.underlying105
 a76 := Tryz.isAgg105
 z76 := Tryz.sizeOf105
 v76 := Tryz.zeroValue105
 t85 := Tryz.underlying163
 a85 := Tryz.isAgg163
 z85 := Tryz.sizeOf163
 v85 := Tryz.zeroValue163
 t127 := Tryz.underlying131
 a127 := Tryz.isAgg131
 z127 := Tryz.sizeOf131
 v127 := Tryz.zeroValue131
 t143 := Tryz.underlying184
 a143 := Tryz.isAgg184
 z143 := Tryz.sizeOf184
 v143 := Tryz.zeroValue184
 t145 := Tryz.underlying186
 a145 := Tryz.isAgg186
 z145 := Tryz.sizeOf186
 v145 := Tryz.zeroValue186
 t167 := Tryz.underlying162
 a167 := Tryz.isAgg162
 z167 := Tryz.sizeOf162
 v167 := Tryz.zeroValue162
 t168 := Tryz.underlying165
 a168 := Tryz.isAgg165
 z168 := Tryz.sizeOf165
 v168 := Tryz.zeroValue165
 t171 := Tryz.underlying152
 a171 := Tryz.isAgg152
 z171 := Tryz.sizeOf152
 v171 := Tryz.zeroValue152
 t173 := Tryz.underlying155
 a173 := Tryz.isAgg155
 z173 := Tryz.sizeOf155
 v173 := Tryz.zeroValue155
 t175 := Tryz.underlying177
 a175 := Tryz.isAgg177
 z175 := Tryz.sizeOf177
 v175 := Tryz.zeroValue177
 t210 := Tryz.underlying180
 a210 := Tryz.isAgg180
 z210 := Tryz.sizeOf180
 v210 := Tryz.zeroValue180
 t212 := Tryz.underlying172
 a212 := Tryz.isAgg172
 z212 := Tryz.sizeOf172
 v212 := Tryz.zeroValue172
 t213 := Tryz.underlying174
 a213 := Tryz.isAgg174
 z213 := Tryz.sizeOf174
 t232 := Tryz.underlying187
 a232 := Tryz.isAgg187
 z232 := Tryz.sizeOf187
 v232 := Tryz.zeroValue187
 t233 := Tryz.underlying188
 a233 := Tryz.isAgg188
 z233 := Tryz.sizeOf188
 v233 := Tryz.zeroValue188
 g15 := by kernel_rfl
 g16 := by kernel_rfl
 g17 := by kernel_rfl
 g18 := by kernel_rfl
 g19 := by kernel_rfl
 t80 := Tryz.underlying107
 a80 := Tryz.isAgg107
 z80 := Tryz.sizeOf107
 v80 := Tryz.zeroValue107
 i0 := by kernel_rfl
 i2 := by kernel_rfl
 i3 := by kernel_rfl
 i4 := by kernel_rfl
 i5 := by kernel_rfl
 i9 := by kernel_rfl
 i20 := by kernel_rfl
 i21 := by kernel_rfl
 i37 := by kernel_rfl
 i46 := by kernel_rfl
 i51 := by kernel_rfl
 i53 := by kernel_rfl
 i75 := by kernel_rfl
 i76 := by kernel_rfl
 i80 := by kernel_rfl
 i85 := by kernel_rfl
 i127 := by kernel_rfl
 i143 := by kernel_rfl
 i145 := by kernel_rfl
 i167 := by kernel_rfl
 i168 := by kernel_rfl
 i171 := by kernel_rfl
 i173 := by kernel_rfl
 i175 := by kernel_rfl
 i210 := by kernel_rfl
 i212 := by kernel_rfl
 i232 := by kernel_rfl
 i233 := by kernel_rfl
 m15 := by kernel_rfl
 m16 := by kernel_rfl
 m17 := by kernel_rfl
 m18 := by kernel_rfl
 m19 := by kernel_rfl
 c0 := by kernel_rfl
 c2 := by kernel_rfl
 c3 := by kernel_rfl
 c4 := by kernel_rfl
 c5 := by kernel_rfl
 c9 := by kernel_rfl
 c20 := by kernel_rfl
 c21 := by kernel_rfl
 c37 := by kernel_rfl
 c46 := by kernel_rfl
 c51 := by kernel_rfl
 c53 := by kernel_rfl
 c75 := by kernel_rfl
 c76 := by kernel_rfl
 c80 := by kernel_rfl
 c85 := by kernel_rfl
 c127 := by kernel_rfl
 c143 := by kernel_rfl
 c145 := by kernel_rfl
 c167 := by kernel_rfl
 c168 := by kernel_rfl
 c171 := by kernel_rfl
 c173 := by kernel_rfl
 c175 := by kernel_rfl
 c210 := by kernel_rfl
 c212 := by kernel_rfl
 c213 := by kernel_rfl
 c232 := by kernel_rfl
 c233 := by kernel_rfl }
theorem Tryz.strconv_Atoi_ok (s : ByteArray) (hmax : s.size <= 9223372036854775806) (v : Int) (h : Lib.atoiAll s.data.toList = .ok v) (w : World) :
  Calls Tryz.prog 80 #[.string s] w fun e w' => e = .returned (.tuple #[.int .i64 v, .nilIface]) /\ (w' = w ∨ ∃ t, w' = Lib.bytesWorld w 5 t) := Any.strconv_Atoi_ok Tryz.laysC172 s hmax v h w
def Tryz.lays99_ren : Go.Shelf.Ren := ⟨fun | 99 => 82 | 206 => 115 | n => n, fun | 9 => 9 | 4 => 4 | 3 => 3 | n => n, fun | n => n⟩
theorem Tryz.lays99 : Go.Proofs.Lays.n99 Tryz.prog Tryz.lays99_ren := {
 mixed := by kernel_rfl
 f99 := Tryz.func82.trans (congrArg some (by kernel_rfl))
 f206 := Tryz.func115.trans (congrArg some (by kernel_rfl))
 t3 := Tryz.underlying3
 a3 := Tryz.isAgg3
 z3 := Tryz.sizeOf3
 v3 := Tryz.zeroValue3
 t4 := Tryz.underlying4
 a4 := Tryz.isAgg4
 z4 := Tryz.sizeOf4
 v4 := Tryz.zeroValue4
 t9 := Tryz.underlying9
 a9 := Tryz.isAgg9
 z9 := Tryz.sizeOf9
 v9 := Tryz.zeroValue9 }
theorem Tryz.strings_HasPrefix (s p : ByteArray) (w : World) :
  Calls Tryz.prog 82 #[.string s, .string p] w fun e w' => e = .returned (.bool (Lib.hasPrefix s.data.toList p.data.toList)) /\ w' = w := Any.strings_HasPrefix Tryz.lays99 s p w
def Tryz.lays152_ren : Go.Shelf.Ren := ⟨fun | 152 => 111 | 137 => 79 | 119 => 142 | 224 => 143 | 225 => 144 | 217 => 108 | 266 => 136 | n => n, fun | 9 => 9 | 21 => 21 | 3 => 3 | 4 => 4 | 5 => 5 | 0 => 0 | 46 => 169 | n => n, fun | n => n⟩
theorem Tryz.lays152 : Go.Proofs.Lays.n152 Tryz.prog Tryz.lays152_ren := {
 mixed := by kernel_rfl
 f119 := Tryz.func142.trans (congrArg some (by kernel_rfl))
 f137 := Tryz.func79.trans (congrArg some (by kernel_rfl))
 f152 := Tryz.func111.trans (congrArg some (by kernel_rfl))
 f217 := Tryz.func108.trans (congrArg some (by kernel_rfl))
 f224 := Tryz.func143.trans (congrArg some (by kernel_rfl))
 f225 := Tryz.func144.trans (congrArg some (by kernel_rfl))
 f266 := Tryz.func136.trans (congrArg some (by kernel_rfl))
 t0 := Tryz.underlying0
 a0 := Tryz.isAgg0
 z0 := Tryz.sizeOf0
 v0 := Tryz.zeroValue0
 t3 := Tryz.underlying3
 a3 := Tryz.isAgg3
 z3 := Tryz.sizeOf3
 v3 := Tryz.zeroValue3
 t4 := Tryz.underlying4
 a4 := Tryz.isAgg4
 z4 := Tryz.sizeOf4
 v4 := Tryz.zeroValue4
 t5 := Tryz.underlying5
 a5 := Tryz.isAgg5
 z5 := Tryz.sizeOf5
 v5 := Tryz.zeroValue5
 t9 := Tryz.underlying9
 a9 := Tryz.isAgg9
 z9 := Tryz.sizeOf9
 v9 := Tryz.zeroValue9
 t21 := Tryz.underlying21
 a21 := Tryz.isAgg21
 z21 := Tryz.sizeOf21
 v21 := Tryz.zeroValue21
 t46 := Tryz.underlying169
 a46 := Tryz.isAgg169
 z46 := Tryz.sizeOf169
 v46 := Tryz.zeroValue169 }
theorem Tryz.strings_IndexRune_ascii (s : ByteArray) (r : Int) (w : World) (h0 : 0 <= r) (h1 : r < 128) :
  Calls Tryz.prog 111 #[.string s, .int .i32 r] w fun e w' => e = .returned (.int .i64 (Lib.indexByte s.data.toList r.toNat.toUInt8)) /\ w' = w := Any.strings_IndexRune_ascii Tryz.lays152 s r w h0 h1
def Tryz.lays153_ren : Go.Shelf.Ren := ⟨fun | 153 => 81 | 152 => 111 | 226 => 112 | 227 => 113 | 228 => 114 | 137 => 79 | 119 => 142 | 224 => 143 | 225 => 144 | 217 => 108 | 266 => 136 | n => n, fun | 9 => 9 | 3 => 3 | 4 => 4 | 5 => 5 | 21 => 21 | 117 => 142 | 116 => 141 | 0 => 0 | 46 => 169 | 124 => 170 | n => n, fun | n => n⟩
theorem Tryz.lays153 : Go.Proofs.Lays.n153 Tryz.prog Tryz.lays153_ren := {
 mixed := by kernel_rfl
 f119 := Tryz.func142.trans (congrArg some (by kernel_rfl))
 f137 := Tryz.func79.trans (congrArg some (by kernel_rfl))
 f152 := Tryz.func111.trans (congrArg some (by kernel_rfl))
 f153 := Tryz.func81.trans (congrArg some (by kernel_rfl))
 f217 := Tryz.func108.trans (congrArg some (by kernel_rfl))
 f224 := Tryz.func143.trans (congrArg some (by kernel_rfl))
 f225 := Tryz.func144.trans (congrArg some (by kernel_rfl))
 f226 := Tryz.func112.trans (congrArg some (by kernel_rfl))
 f227 := Tryz.func113.trans (congrArg some (by kernel_rfl))
 f228 := Tryz.func114.trans (congrArg some (by kernel_rfl))
 f266 := Tryz.func136.trans (congrArg some (by kernel_rfl))
 t0 := Tryz.underlying0
 a0 := Tryz.isAgg0
 z0 := Tryz.sizeOf0
 v0 := Tryz.zeroValue0
 t3 := Tryz.underlying3
 a3 := Tryz.isAgg3
 z3 := Tryz.sizeOf3
 v3 := Tryz.zeroValue3
 t4 := Tryz.underlying4
 a4 := Tryz.isAgg4
 z4 := Tryz.sizeOf4
 v4 := Tryz.zeroValue4
 t5 := Tryz.underlying5
 a5 := Tryz.isAgg5
 z5 := Tryz.sizeOf5
 v5 := Tryz.zeroValue5
 t9 := Tryz.underlying9
 a9 := Tryz.isAgg9
 z9 := Tryz.sizeOf9
 v9 := Tryz.zeroValue9
 t21 := Tryz.underlying21
 a21 := Tryz.isAgg21
 z21 := Tryz.sizeOf21
 v21 := Tryz.zeroValue21
 t46 := Tryz.underlying169
 a46 := Tryz.isAgg169
 z46 := Tryz.sizeOf169
 v46 := Tryz.zeroValue169
 t116 := Tryz.underlying141
 a116 := Tryz.isAgg141
 z116 := Tryz.sizeOf141
 t117 := Tryz.underlying142
 a117 := Tryz.isAgg142
 z117 := Tryz.sizeOf142
 v117 := Tryz.zeroValue142
 t124 := Tryz.underlying170
 a124 := Tryz.isAgg170
 z124 := Tryz.sizeOf170
 v124 := Tryz.zeroValue170 }
theorem Tryz.strings_IndexAny_long (hv116 : ∀ w, (zeroValue 141).run Tryz.prog w = .ok (.agg (Array.replicate 256 (.bool false))) w) (s chars : ByteArray) (w : World) (h2 : 2 <= chars.size) (h8 : 8 < s.size) (hs : s.size < 4294967281) (hcs : chars.size < 4294967281) (hascii : ∀ (j : Nat) b, chars.data.toList[j]? = some b -> b.toNat < 128) :
  Calls Tryz.prog 81 #[.string s, .string chars] w fun e w' => e = .returned (.int .i64 (Lib.indexAny s.data.toList chars.data.toList)) /\ w' = ((w.alloc (.cells (Lib.setCells chars.data.toList) 141)).alloc (.cells (Lib.setCells chars.data.toList) 141)) := Any.strings_IndexAny_long Tryz.lays153 hv116 (by kernel_rfl) s chars w h2 h8 hs hcs hascii
def Tryz.lays107_ren : Go.Shelf.Ren := ⟨fun | 107 => 107 | 108 => 135 | n => n, fun | 28 => 136 | 3 => 3 | 4 => 4 | 0 => 0 | n => n, fun | n => n⟩
theorem Tryz.lays107 : Go.Proofs.Lays.n107 Tryz.prog Tryz.lays107_ren := {
 mixed := by kernel_rfl
 f107 := Tryz.func107.trans (congrArg some (by kernel_rfl))
 f108 := Tryz.func135.trans (congrArg some (by kernel_rfl))
 t0 := Tryz.underlying0
 a0 := Tryz.isAgg0
 z0 := Tryz.sizeOf0
 v0 := Tryz.zeroValue0
 t3 := Tryz.underlying3
 a3 := Tryz.isAgg3
 z3 := Tryz.sizeOf3
 v3 := Tryz.zeroValue3
 t4 := Tryz.underlying4
 a4 := Tryz.isAgg4
 z4 := Tryz.sizeOf4
 v4 := Tryz.zeroValue4
 t28 := Tryz.underlying136
 a28 := Tryz.isAgg136
 z28 := Tryz.sizeOf136
 v28 := Tryz.zeroValue136 }
theorem Tryz.slices_Contains_int (b off n c : Nat) (zs : List Int) (x : Int) (w : World) (hz : n <= zs.length) (hbig : n <= 9223372036854775807) (hc : ∀ j, j < zs.length -> w.cell? ⟨b, off + j, none⟩ = some (.int .i64 (zs.getD j 0))) :
  Calls Tryz.prog 107 #[.slice (some ⟨b, off, none⟩) n c, .int .i64 x] w fun e w' => e = .returned (.bool ((zs.take n).contains x)) /\ w' = w := Any.slices_Contains_int Tryz.lays107 b off n c zs x w hz hbig hc
def Tryz.lays109_ren : Go.Shelf.Ren := ⟨fun | 109 => 126 | n => n, fun | 31 => 58 | 9 => 9 | 3 => 3 | 0 => 0 | 4 => 4 | n => n, fun | n => n⟩
theorem Tryz.lays109 : Go.Proofs.Lays.n109 Tryz.prog Tryz.lays109_ren := {
 mixed := by kernel_rfl
 f109 := Tryz.func126.trans (congrArg some (by kernel_rfl))
 t0 := Tryz.underlying0
 a0 := Tryz.isAgg0
 z0 := Tryz.sizeOf0
 v0 := Tryz.zeroValue0
 t3 := Tryz.underlying3
 a3 := Tryz.isAgg3
 z3 := Tryz.sizeOf3
 v3 := Tryz.zeroValue3
 t4 := Tryz.underlying4
 a4 := Tryz.isAgg4
 z4 := Tryz.sizeOf4
 v4 := Tryz.zeroValue4
 t9 := Tryz.underlying9
 a9 := Tryz.isAgg9
 z9 := Tryz.sizeOf9
 v9 := Tryz.zeroValue9
 t31 := Tryz.underlying58
 a31 := Tryz.isAgg58
 z31 := Tryz.sizeOf58
 v31 := Tryz.zeroValue58 }
theorem Tryz.slices_Index_string (b off n c : Nat) (zs : List ByteArray) (x : ByteArray) (w : World) (hz : n <= zs.length) (hbig : n <= 9223372036854775807) (hc : ∀ j, j < zs.length -> w.cell? ⟨b, off + j, none⟩ = some (.string (zs.getD j ByteArray.empty))) :
  Calls Tryz.prog 126 #[.slice (some ⟨b, off, none⟩) n c, .string x] w fun e w' => e = .returned (.int .i64 (Lib.idxOfS (zs.take n) x)) /\ w' = w := Any.slices_Index_string Tryz.lays109 b off n c zs x w hz hbig hc
def Tryz.lays110_ren : Go.Shelf.Ren := ⟨fun | 110 => 100 | 109 => 126 | n => n, fun | 31 => 58 | 9 => 9 | 4 => 4 | 3 => 3 | 0 => 0 | n => n, fun | n => n⟩
theorem Tryz.lays110 : Go.Proofs.Lays.n110 Tryz.prog Tryz.lays110_ren := {
 mixed := by kernel_rfl
 f109 := Tryz.func126.trans (congrArg some (by kernel_rfl))
 f110 := Tryz.func100.trans (congrArg some (by kernel_rfl))
 t0 := Tryz.underlying0
 a0 := Tryz.isAgg0
 z0 := Tryz.sizeOf0
 v0 := Tryz.zeroValue0
 t3 := Tryz.underlying3
 a3 := Tryz.isAgg3
 z3 := Tryz.sizeOf3
 v3 := Tryz.zeroValue3
 t4 := Tryz.underlying4
 a4 := Tryz.isAgg4
 z4 := Tryz.sizeOf4
 v4 := Tryz.zeroValue4
 t9 := Tryz.underlying9
 a9 := Tryz.isAgg9
 z9 := Tryz.sizeOf9
 v9 := Tryz.zeroValue9
 t31 := Tryz.underlying58
 a31 := Tryz.isAgg58
 z31 := Tryz.sizeOf58
 v31 := Tryz.zeroValue58 }
theorem Tryz.slices_Contains_string (b off n c : Nat) (zs : List ByteArray) (x : ByteArray) (w : World) (hz : n <= zs.length) (hbig : n <= 9223372036854775807) (hc : ∀ j, j < zs.length -> w.cell? ⟨b, off + j, none⟩ = some (.string (zs.getD j ByteArray.empty))) :
  Calls Tryz.prog 100 #[.slice (some ⟨b, off, none⟩) n c, .string x] w fun e w' => e = .returned (.bool (Lib.containsS (zs.take n) x)) /\ w' = w := Any.slices_Contains_string Tryz.lays110 b off n c zs x w hz hbig hc
end Go.Proofs
namespace Go.Cz.Lx
def cls (c : UInt8) : Nat :=
 if (97 <= c /\ c <= 122) ∨ (65 <= c /\ c <= 90) then 3
 else if 48 <= c /\ c <= 57 then 4
 else if c = 95 then 5
 else if c = 32 ∨ c = 9 ∨ c = 10 then 1
 else if c = 35 then 2
 else if c = 34 then 6
 else if c = 33 then 7
 else if c = 60 ∨ c = 62 then 8
 else if c ∈ [59, 44, 46, 58, 40, 41, 91, 93, 123, 125, 61, 43, 45] then 9
 else 0
theorem all_bytes {p : UInt8 -> Prop} (h : ∀ n : Fin 256, p (UInt8.ofNat n.1)) (c : UInt8) : p c := by
 have := h ⟨c.toNat, c.toNat_lt⟩
 simpa using this
theorem cls_le (c : UInt8) : cls c <= 9 := all_bytes (p := fun c => cls c <= 9) (by decide +kernel) c
def atL (l : List UInt8) (i : Nat) : Nat := match l[i]? with | some c => cls c | none => 0
theorem atL_some {l : List UInt8} {i : Nat} (h : i < l.length) : atL l i = cls l[i] := by unfold atL; rw [List.getElem?_eq_getElem h]
theorem atL_none {l : List UInt8} {i : Nat} (h : l.length <= i) : atL l i = 0 := by unfold atL; rw [List.getElem?_eq_none h]
def whileN (C : List Nat) : List UInt8 -> Nat
 | [] => 0
 | c :: r => if C.contains (cls c) then whileN C r + 1 else 0
theorem whileN_le (C : List Nat) : ∀ l, whileN C l <= l.length
 | [] => Nat.le_refl _
 | c :: r => by
  have := whileN_le C r; unfold whileN
  split
  ·simp; omega
  ·simp
theorem whileN_drop {C : List Nat} {l : List UInt8} {i : Nat} (h : i < l.length) : whileN C (l.drop i) = if C.contains (cls l[i]) then whileN C (l.drop (i + 1)) + 1 else 0 := by
 rw [List.drop_eq_getElem_cons h]; rfl
theorem whileN_end {C : List Nat} {l : List UInt8} {i : Nat} (h : l.length <= i) : whileN C (l.drop i) = 0 := by rw [List.drop_of_length_le h]; rfl
def gapL : Bool -> List UInt8 -> Nat
 | _, [] => 0
 | true, c :: r => if c = 10 then gapL false r + 1 else gapL true r + 1
 | false, c :: r => if cls c = 1 then gapL false r + 1 else if cls c = 2 then gapL true r + 1 else 0
theorem gapL_le : ∀ (l : List UInt8) (b : Bool), gapL b l <= l.length
 | [], b => by cases b <;> simp [gapL]
 | c :: r, true => by
  have h1 := gapL_le r true; have h2 := gapL_le r false; simp only [gapL, List.length_cons]
  split <;> omega
 | c :: r, false => by
  have h1 := gapL_le r true; have h2 := gapL_le r false; simp only [gapL, List.length_cons]; repeat' split
  all_goals omega
theorem gapL_while : ∀ l : List UInt8, gapL false l = whileN [1] l + gapL false (l.drop (whileN [1] l))
 | [] => rfl
 | c :: r => by
  by_cases h : cls c = 1
  ·have hw : whileN [1] (c :: r) = whileN [1] r + 1 := by simp [whileN, h]
   rw [hw, List.drop_succ_cons]; show (if cls c = 1 then gapL false r + 1 else _) = _; rw [if_pos h, gapL_while r]; omega
  ·have hw : whileN [1] (c :: r) = 0 := by
    have : ¬ (1 = cls c) := fun h1 => h h1.symm; simp [whileN, h]
   rw [hw]; simp
theorem gapL_comment : ∀ l : List UInt8, gapL true l = if Lib.indexByte l 10 < 0 then l.length else (Lib.indexByte l 10).toNat + gapL false (l.drop (Lib.indexByte l 10).toNat)
 | [] => rfl
 | c :: r => by
  by_cases h : c = 10
  ·subst h; have e : Lib.indexByte ((10 : UInt8) :: r) 10 = 0 := by simp [Lib.indexByte]
   rw [e]; have h1 : cls 10 = 1 := by decide
   simp [gapL, h1]
  ·have e : Lib.indexByte (c :: r) 10 = if Lib.indexByte r 10 < 0 then -1 else Lib.indexByte r 10 + 1 := by
    have hc : (c == 10) = false := by simp [h]
    have h2 := Lib.indexByte_ge r 10; simp only [Lib.indexByte]
    split <;> simp_all <;> omega
   have ih := gapL_comment r; simp only [gapL, if_neg h]; rw [ih, e]
   split
   ·simp
   ·rename_i h1; have h2 := Lib.indexByte_ge r 10; rw [if_neg (by omega)]; have h3 : (Lib.indexByte r 10 + 1).toNat = (Lib.indexByte r 10).toNat + 1 := by omega
    rw [h3, List.drop_succ_cons]; omega
def gapE (l : List UInt8) (i : Nat) : Nat := i + gapL false (l.drop i)
theorem gapE_le (l : List UInt8) (i : Nat) (h : i <= l.length) : gapE l i <= l.length := by
 have := gapL_le (l.drop i) false; rw [List.length_drop] at this; unfold gapE; omega
structure Tok where
 kind : Nat
 pos : Nat
 num : Nat
 text : List UInt8
def numV (l : List UInt8) : Nat := l.foldl (fun a c => 10 * a + (c.toNat - 48)) 0
def idxQ : List UInt8 -> Option Nat
 | [] => none
 | c :: r => if c = 34 ∨ c = 10 then some 0 else (idxQ r).map (· + 1)
theorem idxQ_lt : ∀ {l : List UInt8} {n : Nat}, idxQ l = some n -> n < l.length
 | [], n, h => by simp [idxQ] at h
 | c :: r, n, h => by
  unfold idxQ at h
  split at h
  ·simp at h; simp; omega
  ·rcases h1 : idxQ r with _ | m
   ·rw [h1] at h; simp at h
   ·rw [h1] at h; have := idxQ_lt h1; simp at h ⊢
    omega
def nextL (l : List UInt8) (i : Nat) : Except Nat (Tok × Nat) :=
 if atL l i = 3 then
  if 24 < whileN [3, 4, 5] (l.drop i) then .error 2 else .ok (⟨1, i, 0, (l.drop i).take (whileN [3, 4, 5] (l.drop i))⟩, whileN [3, 4, 5] (l.drop i))
 else if atL l i = 4 then
  if 13 < whileN [4] (l.drop i) ∨ atL l (i + whileN [4] (l.drop i)) = 3 ∨ atL l (i + whileN [4] (l.drop i)) = 5 then .error 4
  else .ok (⟨2, i, numV ((l.drop i).take (whileN [4] (l.drop i))), (l.drop i).take (whileN [4] (l.drop i))⟩, whileN [4] (l.drop i))
 else if atL l i = 6 then
  match idxQ (l.drop (i + 1)) with
  | none => .error 6
  | some n => if (l.drop (i + 1))[n]? = some 10 then .error 6 else if 400 < n then .error 2 else .ok (⟨3, i, 0, (l.drop (i + 1)).take n⟩, n + 2)
 else if (atL l i = 7 ∨ atL l i = 8) /\ l[i + 1]? = some 61 then .ok (⟨4, i, 0, (l.drop i).take 2⟩, 2)
 else if atL l i = 8 ∨ atL l i = 9 then .ok (⟨4, i, 0, (l.drop i).take 1⟩, 1)
 else .error 3
theorem nextL_width {l : List UInt8} {i : Nat} {t : Tok} {k : Nat} (h : nextL l i = .ok (t, k)) (hi : i < l.length) : 1 <= k /\ i + k <= l.length := by
 have hw (C : List Nat) (hC : C.contains (cls l[i]) = true) : 1 <= whileN C (l.drop i) /\ i + whileN C (l.drop i) <= l.length := by
  have h1 := whileN_le C (l.drop i); rw [List.length_drop] at h1; refine ⟨?_, by omega⟩; rw [whileN_drop hi, if_pos hC]; omega
 have ha := atL_some hi; unfold nextL at h
 split at h
 ·rename_i h0; have := hw [3, 4, 5] (by rw [<- ha, h0]; rfl)
  split at h
  ·cases h
  ·injection h with h; injection h with _ h; subst h; exact this
 split at h
 ·rename_i h0; have := hw [4] (by rw [<- ha, h0]; rfl)
  split at h
  ·cases h
  ·injection h with h; injection h with _ h; subst h; exact this
 split at h
 ·split at h
  ·cases h
  ·rename_i n hn; have := idxQ_lt hn; rw [List.length_drop] at this
   split at h
   ·cases h
   split at h
   ·cases h
   ·injection h with h; injection h with _ h; subst h; omega
 split at h
 ·rename_i h0; have := (List.getElem?_eq_some_iff.1 h0.2).1
  injection h with h; injection h with _ h; subst h; omega
 split at h
 ·injection h with h; injection h with _ h; subst h; omega
 ·cases h
theorem nextL_err {l : List UInt8} {i e : Nat} (h : nextL l i = .error e) : e = 2 ∨ e = 3 ∨ e = 4 ∨ e = 6 := by
 unfold nextL at h; repeat' split at h
 all_goals first | (injection h with h; omega) | cases h
def lexF (l : List UInt8) : Nat -> Nat -> List Tok -> Except (Nat × Nat) (List Tok)
 | 0, _, acc => .ok acc
 | f + 1, i, acc =>
  if i < l.length then
   match nextL l i with
   | .error e => .error (e, i)
   | .ok (t, k) => if acc.length = 5000 then .error (2, i) else lexF l f (gapE l (i + k)) (acc ++ [t])
  else .ok acc
def lexAll (l : List UInt8) : List Tok × Nat × Int :=
 if 20000 < l.length then ([], 2, -1)
 else match lexF l (l.length + 1) (gapE l 0) [] with
  | .error (e, i) => ([], e, i)
  | .ok ts => (ts, 0, 0)
def LexI (l : List UInt8) (i : Nat) (acc : List Tok) : Prop := ∃ f, l.length - i < f /\ lexF l (l.length + 1) (gapE l 0) [] = lexF l f i acc
theorem lexI_start (l : List UInt8) : LexI l (gapE l 0) [] := ⟨l.length + 1, by omega, rfl⟩
theorem lexI_end {l : List UInt8} {i : Nat} {acc : List Tok} (h : LexI l i acc) (hi : l.length <= i) (h2 : l.length <= 20000) : lexAll l = (acc, 0, 0) := by
 obtain ⟨f, hf, he⟩ := h; unfold lexAll; rw [if_neg (by omega), he]; cases f with
 | zero => omega
 | succ f => simp only [lexF]; rw [if_neg (by omega)]
theorem lexI_err {l : List UInt8} {i e : Nat} {acc : List Tok} (h : LexI l i acc) (hi : i < l.length) (h2 : l.length <= 20000) (hn : nextL l i = .error e) : lexAll l = ([], e, (i : Int)) := by
 obtain ⟨f, hf, he⟩ := h; unfold lexAll; rw [if_neg (by omega), he]; cases f with
 | zero => omega
 | succ f => simp only [lexF]; rw [if_pos hi, hn]
theorem lexI_full {l : List UInt8} {i k : Nat} {t : Tok} {acc : List Tok} (h : LexI l i acc) (hi : i < l.length) (h2 : l.length <= 20000) (hn : nextL l i = .ok (t, k)) (hf5 : acc.length = 5000) : lexAll l = ([], 2, (i : Int)) := by
 obtain ⟨f, hf, he⟩ := h; unfold lexAll; rw [if_neg (by omega), he]; cases f with
 | zero => omega
 | succ f => simp only [lexF]; rw [if_pos hi, hn]; simp [hf5]
theorem lexI_next {l : List UInt8} {i k : Nat} {t : Tok} {acc : List Tok} (h : LexI l i acc) (hi : i < l.length) (hn : nextL l i = .ok (t, k)) (hf5 : acc.length ≠ 5000) : LexI l (gapE l (i + k)) (acc ++ [t]) := by
 obtain ⟨f, hf, he⟩ := h; obtain ⟨w1, w2⟩ := nextL_width hn hi; cases f with
 | zero => omega
 | succ f =>
  refine ⟨f, ?_, ?_⟩
  ·have : i + k <= gapE l (i + k) := by unfold gapE; omega
   omega
  ·rw [he]; simp only [lexF]; rw [if_pos hi, hn]; simp [hf5]
end Go.Cz.Lx
namespace Go.Proofs.YtoeknmkephnekaaGreatDoor
open Go.RowKit Go.Cz Go.Cz.Lx
attribute [local go_sem] bs_size bs_extract bs_append bs_toList
attribute [local irreducible] cList
def setTab (cs : Array Value) (k : Int) (l : List UInt8) : Array Value := l.foldl (fun a c => a.setIfInBounds c.toNat (.int .i64 k)) cs
theorem setTab_size (k : Int) : ∀ (l : List UInt8) (cs : Array Value), (setTab cs k l).size = cs.size
 | [], cs => rfl
 | c :: l, cs => by
  show (setTab (cs.setIfInBounds c.toNat (.int .i64 k)) k l).size = _; rw [setTab_size k l]; simp
theorem setTab_snoc (cs : Array Value) (k : Int) (l : List UInt8) (c : UInt8) : setTab cs k (l ++ [c]) = (setTab cs k l).setIfInBounds c.toNat (.int .i64 k) := by simp [setTab]
def TabAt (w : World) (g : Nat) (cs : Array Value) : Prop := w.heap[g]? = some (.cells cs 78 (0, 0)) /\ cs.size = 256
set_option maxHeartbeats 2000000 in
theorem set_c (g : Nat) (cs : Array Value) (l : List UInt8) (k : Int) (w : World) (hl : l.length <= 1000) (hg : TabAt w g cs) :
  Calls Tryz.prog 76 #[.string (bs l), .int .i64 k, .pointer (some ⟨g, 0, none⟩)] w fun e w' => e = .returned (.tuple #[]) /\ TabAt w' g (setTab cs k l) /\ Mod [g] w w' := by
 obtain ⟨u, hu⟩ : ∃ u, u = bs l := ⟨_, rfl⟩; rw [<- hu]; have hsz : u.size = l.length := by rw [hu, bs_size]
 have hs0 : u.size <= 1000 := by omega
 have HG := Lib.hid hg; have HU := Lib.hid (And.intro hu hsz); clear hg hu hsz hl; go_enter Tryz.func76, Tryz.ntmps76
 go_wp2_with fail
 go_loopg [5] u.size (fun gk i wr => ∃ j : Nat, gk = u.size - j /\ j <= u.size /\ i = .int .i64 (j : Int) /\ Hid (TabAt wr g (setTab cs k (l.take j)) /\ Mod [g] w wr))
 case atStart => exact ⟨0, rfl, Nat.zero_le _, rfl, HG.out, Mod.refl _ _⟩
 case round =>
  rename_i J1 K1 hJ1 hK1; clear HG; obtain ⟨j, rfl, hj, rfl, hw⟩ := hrel; by_cases hlt : j < u.size
  ·obtain ⟨b, hb⟩ : ∃ b, u[j].toNat = b := ⟨_, rfl⟩; have hb2 : b < 256 := by rw [<- hb]; exact UInt8.toNat_lt _
   have hz := lt_of_block hw.out.1.1; obtain ⟨v0, c0⟩ : ∃ v0, wr.cell? ⟨g, b, none⟩ = some v0 := ⟨_, by rw [cell_of_heap hw.out.1.1]; exact Array.getElem?_eq_getElem (by rw [hw.out.1.2]; exact hb2)⟩; have f0 : wr.frozen? ⟨g, b, none⟩ = false := free_of_heap hw.out.1.1; have HN : Hid (TabAt (wr.setCell ⟨g, b, none⟩ (.int .i64 k)) g (setTab cs k (l.take (j + 1))) /\ Mod [g] w (wr.setCell ⟨g, b, none⟩ (.int .i64 k))) := by
    obtain ⟨h1, h2⟩ := HU.out; subst h1; have hjl : j < l.length := by omega
    replace hb : l[j].toNat = b := hb; refine ⟨⟨?_, ?_⟩, hw.out.2.setCell (.inl (by simp)) _⟩
    ·rw [List.take_succ_eq_append_getElem hjl, setTab_snoc, hb]; exact setCell_heap hw.out.1.1 _
    ·rw [setTab_size]; rw [<- setTab_size k (l.take j)]; exact hw.out.1.2
   clear hw; go_wp2_with fail
   go_roundg (u.size - (j + 1))
   case measure => omega
   case rel => exact ⟨j + 1, rfl, by omega, by go_num, HN⟩
  ·obtain rfl : j = u.size := by omega
   clear hJ1 hK1; have He : Hid (TabAt wr g (setTab cs k l) /\ Mod [g] w wr) := by
    have h2 := hw.out; rw [List.take_of_length_le (by have := HU.out.2; omega)] at h2; exact h2
   clear hw; go_wp2_with fail
   go_end0
   exact ⟨rfl, He.out⟩
def clsTab : Array Value := ((List.range 256).map fun c => Value.int .i64 (cls (UInt8.ofNat c) : Int)).toArray
theorem clsTab_size : clsTab.size = 256 := by simp [clsTab]
theorem clsTab_at {c : Nat} (h : c < 256) : clsTab[c]? = some (.int .i64 (cls (UInt8.ofNat c) : Int)) := by simp [clsTab, h]
theorem tab_eq : setTab (setTab (setTab (setTab (setTab (setTab (setTab (setTab (setTab (Tryz.zeroCells78) 3 [97, 98, 99, 100, 101, 102, 103, 104, 105, 106, 107, 108, 109, 110, 111, 112, 113, 114, 115, 116, 117, 118, 119, 120, 121, 122, 65, 66, 67, 68, 69, 70, 71, 72, 73, 74, 75, 76, 77, 78, 79, 80, 81, 82, 83, 84, 85, 86, 87, 88, 89, 90]) 4 [48, 49, 50, 51, 52, 53, 54, 55, 56, 57]) 5 [95]) 1 [32, 9, 10]) 2 [35]) 6 [34]) 7 [33]) 8 [60, 62]) 9 [59, 44, 46, 58, 40, 41, 91, 93, 123, 125, 61, 43, 45] = clsTab := by kernel_rfl
theorem zero_size : (Tryz.zeroCells78).size = 256 := by kernel_rfl
theorem clsTab_one : clsTab.all (·.oneCell') = true := by kernel_rfl
end Go.Proofs.YtoeknmkephnekaaGreatDoor
namespace Go.Proofs.YtoeknmkephnekaaGreatDoor
open Go.RowKit Go.Cz Go.Cz.Lx
attribute [local go_sem] bs_size bs_extract bs_append bs_toList
attribute [local irreducible] cList
theorem storeCells_row {P : Program} (w : World) (g : Nat) (t : TypeId) (old cells : Array Value) (hg : w.heap[g]? = some (.cells old t (0, 0))) (ho : old.size = cells.size) (h1 : cells.all (·.oneCell') = true) :
  (storeCells ⟨g, 0, none⟩ cells.toList).run P w = .ok () (w.setRow g cells) := by
 have := run_storeCells_from (P := P) g t cells.toList 0 old w hg (by simp; omega) (fun v hv => (Array.all_eq_true_iff_forall_mem.1 h1) v (by simpa using hv)); rw [this]; simp [ho]
theorem TabNext {w W W' : World} {g h : Nat} {cs cs' : Array Value} (H : TabAt W g cs /\ Mod [h, g] w W /\ ∃ cs, TabAt W h cs) (hne : h ≠ g) (ht : TabAt W' g cs') (hm : Mod [g] W W') : Hid (TabAt W' g cs' /\ Mod [h, g] w W' /\ ∃ cs, TabAt W' h cs) := by
 obtain ⟨h1, h2, cs0, h3, h4⟩ := H; exact ⟨ht, h2.then hm (by simp), cs0, hm.heap h3 (by simpa using hne), h4⟩
set_option maxRecDepth 100000 in
set_option maxHeartbeats 2000000 in
theorem classes_c (w : World) : Calls Tryz.prog 42 #[] w fun e w' => e = .returned (.agg clsTab) /\ Below w.heap.size w w' := by
 have hi1 : (Tryz.prog.info? 78).map (·.size) = some 256 := by kernel_rfl
 go_enter Tryz.func42, Tryz.ntmps42
 go_wp2_with fail
 obtain ⟨W, hW⟩ : ∃ W, W = (w.alloc (.cells Tryz.zeroCells78 78)).alloc (.cells Tryz.zeroCells78 78) := ⟨_, rfl⟩; have HT : Hid (TabAt W (w.heap.size + 1) Tryz.zeroCells78 /\ Mod [w.heap.size, w.heap.size + 1] w W /\ ∃ cs, TabAt W w.heap.size cs) := by
  refine ⟨⟨?_, zero_size⟩, ?_, Tryz.zeroCells78, ?_, zero_size⟩
  ·rw [hW]; exact new_heap _ _ _ (by simp)
  ·rw [hW]; exact ((Mod.refl _ _).alloc _).alloc _
  ·rw [hW, Below.heap_alloc _ _ _ (by simp)]; exact new_heap _ _ _ rfl
 rw [<- hW]; clear hW; go_at_call 76
 refine (set_c (w.heap.size + 1) _ [97, 98, 99, 100, 101, 102, 103, 104, 105, 106, 107, 108, 109, 110, 111, 112, 113, 114, 115, 116, 117, 118, 119, 120, 121, 122, 65, 66, 67, 68, 69, 70, 71, 72, 73, 74, 75, 76, 77, 78, 79, 80, 81, 82, 83, 84, 85, 86, 87, 88, 89, 90] 3 _ (by decide) HT.out.1).mono ?_; rintro e W0 ⟨rfl, ht, hm⟩; replace HT := TabNext HT.out (by omega) ht hm; clear ht hm; go_wp2_with fail
 go_at_call 76
 refine (set_c (w.heap.size + 1) _ [48, 49, 50, 51, 52, 53, 54, 55, 56, 57] 4 _ (by decide) HT.out.1).mono ?_; rintro e W1 ⟨rfl, ht, hm⟩; replace HT := TabNext HT.out (by omega) ht hm; clear ht hm; go_wp2_with fail
 go_at_call 76
 refine (set_c (w.heap.size + 1) _ [95] 5 _ (by decide) HT.out.1).mono ?_; rintro e W2 ⟨rfl, ht, hm⟩; replace HT := TabNext HT.out (by omega) ht hm; clear ht hm; go_wp2_with fail
 go_at_call 76
 refine (set_c (w.heap.size + 1) _ [32, 9, 10] 1 _ (by decide) HT.out.1).mono ?_; rintro e W3 ⟨rfl, ht, hm⟩; replace HT := TabNext HT.out (by omega) ht hm; clear ht hm; go_wp2_with fail
 go_at_call 76
 refine (set_c (w.heap.size + 1) _ [35] 2 _ (by decide) HT.out.1).mono ?_; rintro e W4 ⟨rfl, ht, hm⟩; replace HT := TabNext HT.out (by omega) ht hm; clear ht hm; go_wp2_with fail
 go_at_call 76
 refine (set_c (w.heap.size + 1) _ [34] 6 _ (by decide) HT.out.1).mono ?_; rintro e W5 ⟨rfl, ht, hm⟩; replace HT := TabNext HT.out (by omega) ht hm; clear ht hm; go_wp2_with fail
 go_at_call 76
 refine (set_c (w.heap.size + 1) _ [33] 7 _ (by decide) HT.out.1).mono ?_; rintro e W6 ⟨rfl, ht, hm⟩; replace HT := TabNext HT.out (by omega) ht hm; clear ht hm; go_wp2_with fail
 go_at_call 76
 refine (set_c (w.heap.size + 1) _ [60, 62] 8 _ (by decide) HT.out.1).mono ?_; rintro e W7 ⟨rfl, ht, hm⟩; replace HT := TabNext HT.out (by omega) ht hm; clear ht hm; go_wp2_with fail
 go_at_call 76
 refine (set_c (w.heap.size + 1) _ [59, 44, 46, 58, 40, 41, 91, 93, 123, 125, 61, 43, 45] 9 _ (by decide) HT.out.1).mono ?_; rintro e W8 ⟨rfl, ht, hm⟩; replace HT := TabNext HT.out (by omega) ht hm; clear ht hm; rw [tab_eq] at HT; obtain ⟨cs0, hc0⟩ := HT.out.2.2; go_wp2_with fail
 refine wp_load_row 78 (.tmp 1) rfl (w.heap.size + 1) rfl 78 clsTab (0, 0) _ HT.out.1.1 Tryz.underlying78 rfl (by rw [clsTab_size]; exact hi1) ?_; go_wp2_with fail
 have hst := storeCells_row (P := Tryz.prog) W8 w.heap.size 78 cs0 clsTab hc0.1 (by rw [clsTab_size]; exact hc0.2) clsTab_one; rw [hst]; clear hst; simp only [Result.andThen_ok]; go_wp2_with fail
 refine bodyPost_ret (v := .agg clsTab) ?_ ?_ ⟨rfl, ?_⟩
 ·exact results_cell_row (fn := Tryz.f42) (p := 0) (ty := 78) (by rfl) _ _ w.heap.size 78 clsTab (0, 0) _ (by rfl) (setRow_heap _ _ _ _ _ _ hc0.1) Tryz.underlying78 rfl (by rw [clsTab_size]; exact hi1)
 ·rfl
 have hm := HT.out.2.1; have hm2 : Mod [w.heap.size, w.heap.size + 1] w (W8.setRow w.heap.size clsTab) := hm.then (S' := [w.heap.size]) ⟨rfl, rfl, rfl, by simp, fun k _ hk => setRow_other _ _ _ _ (by simpa using hk)⟩ (by simp)
 exact ⟨hm2.os, hm2.tape, hm2.output, hm2.size, fun k hk => hm2.block k hk (by simp; omega)⟩
end Go.Proofs.YtoeknmkephnekaaGreatDoor
namespace Go.Proofs.YtoeknmkephnekaaGreatDoor
open Go.RowKit Go.Cz Go.Cz.Lx
attribute [local go_sem] bs_size bs_extract bs_append bs_toList
attribute [local irreducible] cList
structure IsScan (w : World) (b : Nat) (u : ByteArray) : Prop where
 lt : b < w.heap.size
 text : w.cell? ⟨b, 0, none⟩ = some (.string u)
 tab : ∀ c : Nat, c < 256 -> w.cell? ⟨b, 1 + c, none⟩ = some (.int .i64 (cls (UInt8.ofNat c) : Int))
theorem IsScan.below {w w' : World} {b : Nat} {u : ByteArray} (h : IsScan w b u) (hb : Below w.heap.size w w') : IsScan w' b u :=
 ⟨Nat.lt_of_lt_of_le h.lt hb.size, (hb.cell (p := ⟨b, 0, none⟩) h.lt).trans h.text, fun c hc => (hb.cell (p := ⟨b, 1 + c, none⟩) h.lt).trans (h.tab c hc)⟩
theorem atL_bs {l : List UInt8} {i : Nat} (h : i < (bs l).size) : atL l i = cls (bs l)[i] := by
 rw [atL_some (by simpa [bs_size] using h)]
 rfl
set_option maxHeartbeats 2000000 in
theorem at_c (b : Nat) (l : List UInt8) (i : Nat) (w : World) (hl : l.length <= 20000) (hi : i <= 40000) (hs : IsScan w b (bs l)) :
  Calls Tryz.prog 78 #[.pointer (some ⟨b, 0, none⟩), .int .i64 (i : Int)] w fun e w' => e = .returned (.int .i64 (atL l i : Int)) /\ Below w.heap.size w w' := by
 have hz := hs.lt; have c0 := hs.text; by_cases h : i < l.length
 ·have HA : Hid (∃ h : i < (bs l).size, atL l i = cls (bs l)[i]) := ⟨by rw [bs_size]; exact h, atL_bs (by rw [bs_size]; exact h)⟩; have HT := Lib.hid hs.tab; have hsz : (bs l).size <= 20000 := by rw [bs_size]; exact hl
  clear hs h hl; generalize bs l = u at *; obtain ⟨k, hk⟩ := HA.out; have Hk := Lib.hid hk; clear hk HA; obtain ⟨c, hc⟩ : ∃ c, u[i].toNat = c := ⟨_, rfl⟩; have hc2 : c < 256 := by rw [<- hc]; exact UInt8.toNat_lt _
  have c1 := HT.out c hc2; have Hc : Hid (u[i] = UInt8.ofNat c) := by show _ = _; rw [<- hc]; simp
  rw [<- Hc.out, <- Hk.out] at c1; clear HT; go_enter Tryz.func78, Tryz.ntmps78
  go_wp2_with fail
  refine wp_region_can [] (List.range 12) (by kernel_rfl) (by kernel_rfl) ?_; iterate 12 (refine cl_do rfl rfl rfl rfl (fun _ _ => ?_); go_wp2_with fail)
  refine cl_nil ?_; go_wp2_with fail
  go_ret
  exact ⟨rfl, (Below.refl _ _).drew⟩
 ·have HA : Hid (atL l i = 0) := atL_none (by omega); have h2 : (bs l).size <= i := by rw [bs_size]; omega
  have hsz : (bs l).size <= 20000 := by rw [bs_size]; exact hl
  clear hs h hl; generalize bs l = u at *; go_enter Tryz.func78, Tryz.ntmps78
  go_wp2_with fail
  go_ret
  exact ⟨by rw [HA.out]; rfl, Below.refl _ _⟩
end Go.Proofs.YtoeknmkephnekaaGreatDoor
namespace Go.Cz.Lx
theorem drop_add (l : List UInt8) (i k : Nat) : (l.drop i).drop k = l.drop (i + k) := by rw [List.drop_drop]
theorem whileN_rest (C : List Nat) : ∀ l : List UInt8, whileN C (l.drop (whileN C l)) = 0
 | [] => rfl
 | c :: r => by
  by_cases h : C.contains (cls c) = true
  ·have hw : whileN C (c :: r) = whileN C r + 1 := by unfold whileN; rw [if_pos h]; cases r <;> rfl
   rw [hw, List.drop_succ_cons]; exact whileN_rest C r
  ·have hw : whileN C (c :: r) = 0 := by unfold whileN; rw [if_neg h]
   rw [hw]; exact hw
theorem gap_start (l : List UInt8) (i : Nat) : gapE l i = gapE l (i + whileN [1] (l.drop i)) /\ whileN [1] (l.drop (i + whileN [1] (l.drop i))) = 0 := by
 refine ⟨?_, ?_⟩
 ·unfold gapE; rw [gapL_while (l.drop i), drop_add]; omega
 ·rw [<- drop_add]; exact whileN_rest _ _
theorem gap_exit {l : List UInt8} {j : Nat} (hw : whileN [1] (l.drop j) = 0) (h : atL l j ≠ 2) : gapE l j = j := by
 unfold gapE; by_cases hj : j < l.length
 ·rw [whileN_drop hj] at hw; rw [atL_some hj] at h; have h1 : ¬ cls l[j] = 1 := fun e => by
   rw [e] at hw; simp at hw
  rw [List.drop_eq_getElem_cons hj]; show j + (if cls l[j] = 1 then _ else _) = _; rw [if_neg h1, if_neg h]
  rfl
 ·rw [List.drop_of_length_le (by omega)]; rfl
theorem cls_hash {c : UInt8} (h : cls c = 2) : c = 35 := all_bytes (p := fun c => cls c = 2 -> c = 35) (by decide +kernel) c h
theorem gap_hash {l : List UInt8} {j : Nat} (h : atL l j = 2) : j < l.length /\ gapL false (l.drop j) = gapL true (l.drop j) /\ Lib.indexByte (l.drop j) 10 ≠ 0 := by
 by_cases hj : j < l.length
 ·rw [atL_some hj] at h; refine ⟨hj, ?_, ?_⟩
  ·rw [List.drop_eq_getElem_cons hj]; have h1 : l[j] = 35 := cls_hash h; rw [h1]
   rfl
  ·rw [List.drop_eq_getElem_cons hj, cls_hash h]; have h2 := Lib.indexByte_ge (l.drop (j + 1)) 10; unfold Lib.indexByte; rw [if_neg (by decide)]
   split
   ·omega
   ·rename_i h3; simp at h3
    omega
 ·rw [atL_none (by omega)] at h; cases h
theorem gap_none {l : List UInt8} {j : Nat} (h : atL l j = 2) (hn : Lib.indexByte (l.drop j) 10 < 0) : gapE l j = l.length := by
 obtain ⟨h1, h2, -⟩ := gap_hash h; unfold gapE; rw [h2, gapL_comment, if_pos hn, List.length_drop]; omega
theorem gap_some {l : List UInt8} {j n : Nat} (h : atL l j = 2) (hn : Lib.indexByte (l.drop j) 10 = n) : gapE l j = gapE l (j + n) /\ 1 <= n /\ j + n <= l.length := by
 obtain ⟨h1, h2, h3⟩ := gap_hash h; have h4 : Lib.indexByte (l.drop j) 10 < (l.drop j).length := by
  have : ∀ (l : List UInt8) (c : UInt8), Lib.indexByte l c < l.length := by
   intro l c
   induction l with
   | nil => simp [Lib.indexByte]
   | cons b l ih =>
    have h2 := Lib.indexByte_ge l c; unfold Lib.indexByte
    split
    ·simp
     try omega
    ·split
     ·simp
      try omega
     ·simp
      try omega
  exact this _ _
 rw [List.length_drop] at h4; refine ⟨?_, by omega, by omega⟩; unfold gapE; rw [h2, gapL_comment, if_neg (by omega), hn, Int.toNat_natCast, drop_add]; omega
end Go.Cz.Lx
namespace Go.Cz.Lx
theorem cls_digit {c : UInt8} (h : cls c = 4) : 48 <= c.toNat /\ c.toNat <= 57 := all_bytes (p := fun c => cls c = 4 -> 48 <= c.toNat /\ c.toNat <= 57) (by decide +kernel) c h
theorem whileN_mem {C : List Nat} : ∀ {l : List UInt8} {c : UInt8}, c ∈ l.take (whileN C l) -> C.contains (cls c) = true
 | [], c, h => by simp at h
 | d :: r, c, h => by
  unfold whileN at h
  split at h
  ·rename_i hd; rw [List.take_succ_cons] at h; rcases List.mem_cons.1 h with rfl | h
   ·exact hd
   ·exact whileN_mem h
  ·simp at h
theorem parse_num : ∀ (l : List UInt8) (acc : Nat), (∀ c ∈ l, 48 <= c.toNat /\ c.toNat <= 57) -> l.length <= 13 -> (acc + 1) * 10 ^ l.length <= 10 ^ 13 -> Lib.parseUint10 acc l = .ok (l.foldl (fun a c => 10 * a + (c.toNat - 48)) acc)
 | [], acc, _, _, _ => rfl
 | c :: r, acc, h, hl, hb => by
  have hc := h c (by simp); have hl' : r.length <= 13 := by simp at hl; omega
  rw [List.length_cons, Nat.pow_succ] at hb; have hp : 1 <= 10 ^ r.length := Nat.one_le_pow _ _ (by decide); have e13 : (10 : Nat) ^ 13 = 10000000000000 := by decide
  have hacc : (acc + 1) * 10 <= 10 ^ 13 := by
   refine Nat.le_trans ?_ hb; rw [show (acc + 1) * (10 ^ r.length * 10) = (acc + 1) * 10 * 10 ^ r.length by rw [Nat.mul_assoc, Nat.mul_comm 10]]; exact Nat.le_mul_of_pos_right _ hp
  have hb2 : (acc * 10 + (c.toNat - 48) + 1) * 10 ^ r.length <= 10 ^ 13 := by
   refine Nat.le_trans ?_ hb; rw [show (acc + 1) * (10 ^ r.length * 10) = ((acc + 1) * 10) * 10 ^ r.length by rw [Nat.mul_assoc, Nat.mul_comm 10]]; exact Nat.mul_le_mul_right _ (by omega)
  simp only [Lib.parseUint10]; rw [if_pos hc, if_neg (by omega), if_neg (by omega), parse_num r _ (fun x hx => h x (by simp [hx])) hl' hb2, List.foldl_cons, Nat.mul_comm 10 acc]
theorem atoi_num {l : List UInt8} (h : ∀ c ∈ l, 48 <= c.toNat /\ c.toNat <= 57) (h1 : 1 <= l.length) (h2 : l.length <= 13) : Lib.atoiAll l = .ok (numV l : Int) /\ numV l < 10000000000000 := by
 have hp := parse_num l 0 h h2 (by rw [Nat.zero_add, Nat.one_mul]; exact Nat.pow_le_pow_right (by decide) h2); have hb : numV l + 1 <= 10 ^ l.length := by
  have : ∀ (l : List UInt8) (acc : Nat), (∀ c ∈ l, 48 <= c.toNat /\ c.toNat <= 57) -> l.foldl (fun a c => 10 * a + (c.toNat - 48)) acc + 1 <= (acc + 1) * 10 ^ l.length := by
   intro l
   induction l with
   | nil => intro acc _; simp
   | cons c r ih =>
    intro acc hc; have h3 := ih (10 * acc + (c.toNat - 48)) (fun x hx => hc x (by simp [hx])); have h4 := hc c (by simp); rw [List.foldl_cons, List.length_cons, Nat.pow_succ]; refine Nat.le_trans h3 ?_; rw [show (acc + 1) * (10 ^ r.length * 10) = ((acc + 1) * 10) * 10 ^ r.length by rw [Nat.mul_assoc, Nat.mul_comm 10]]; exact Nat.mul_le_mul_right _ (by omega)
  have h5 := this l 0 h; rw [Nat.zero_add, Nat.one_mul] at h5; exact h5
 have hb2 : (10 : Nat) ^ l.length <= 10 ^ 13 := Nat.pow_le_pow_right (by decide) h2; have e13 : (10 : Nat) ^ 13 = 10000000000000 := by decide
 refine ⟨?_, by omega⟩; rcases l with _ | ⟨c, r⟩
 ·simp at h1
 ·have hc := h c (by simp); have e3 : Lib.parseMag (c :: r) = .ok (numV (c :: r)) := by unfold Lib.parseMag; rw [if_neg (by simp)]; exact hp
  have e0 : ¬ c.toNat = 43 := by omega
  have e1 : ¬ c.toNat = 45 := by omega
  have e4 : ¬ 9223372036854775808 <= numV (c :: r) := by omega
  unfold Lib.atoiAll; simp [e0, e1, e3, e4]
end Go.Cz.Lx
namespace Go.Proofs.YtoeknmkephnekaaGreatDoor
open Go.RowKit Go.Cz Go.Cz.Lx
attribute [local go_sem] bs_size bs_extract bs_append bs_toList
attribute [local irreducible] cList
def IsCls (w : World) (g : Nat) (C : List Nat) : Prop := g < w.heap.size /\ ∀ (j : Nat) (x : Nat), C[j]? = some x -> w.cell? ⟨g, j, none⟩ = some (.int .i64 (x : Int))
theorem IsCls.below {w w' : World} {g : Nat} {C : List Nat} (h : IsCls w g C) (hb : Below w.heap.size w w') : IsCls w' g C :=
 ⟨Nat.lt_of_lt_of_le h.1 hb.size, fun j x hx => (hb.cell (p := ⟨g, j, none⟩) h.1).trans (h.2 j x hx)⟩
theorem contains_c (g c : Nat) (C : List Nat) (x : Nat) (w : World) (hC : C.length <= 10) (h : IsCls w g C) :
  Calls Tryz.prog 107 #[.slice (some ⟨g, 0, none⟩) C.length c, .int .i64 (x : Int)] w fun e w' => e = .returned (.bool (C.contains x)) /\ w' = w := by
 refine (Tryz.slices_Contains_int g 0 C.length c (C.map fun (k : Nat) => (k : Int)) (x : Int) w (by simp) (by omega) (fun j hj => ?_)).mono ?_
 ·have hj' : j < C.length := by simpa using hj
  rw [Nat.zero_add, h.2 j C[j] (List.getElem?_eq_getElem hj'), List.getD_eq_getElem?_getD, List.getElem?_map, List.getElem?_eq_getElem hj']
  rfl
 ·rintro e w' ⟨rfl, hw⟩; refine ⟨?_, hw⟩
  congr 2
  rw [List.take_of_length_le (by simp), Bool.eq_iff_iff]; simp only [List.contains_eq_mem, decide_eq_true_eq, List.mem_map]
  constructor
  ·rintro ⟨a, h1, h2⟩; obtain rfl : a = x := by omega
   exact h1
  ·exact fun h1 => ⟨x, h1, rfl⟩
structure LxE (w W : World) (b : Nat) (l : List UInt8) : Prop where
 below : Below w.heap.size w W
 scan : IsScan W b (bs l)
theorem LxE.next {w W W' : World} {b : Nat} {l : List UInt8} (h : LxE w W b l) (hb : Below W.heap.size W W') : Hid (LxE w W' b l) :=
 ⟨h.below.trans (hb.mono h.below.size), h.scan.below hb⟩
set_option maxHeartbeats 2000000 in
theorem while_c (b g c : Nat) (C : List Nat) (l : List UInt8) (i : Nat) (w : World) (hl : l.length <= 20000) (hi : i <= l.length) (hC : C.length <= 10) (hs : IsScan w b (bs l)) (hg : IsCls w g C) :
  Calls Tryz.prog 77 #[.pointer (some ⟨b, 0, none⟩), .int .i64 (i : Int), .slice (some ⟨g, 0, none⟩) C.length c] w fun e w' => e = .returned (.int .i64 ((i + whileN C (l.drop i) : Nat) : Int)) /\ Below w.heap.size w w' := by
 have HE : Hid (LxE w w b l) := ⟨Below.refl _ _, hs⟩; have HG : Hid (IsCls w g C /\ C.length <= 10) := ⟨hg, hC⟩; have HL := Lib.hid hl; clear hs hg hC; go_enter Tryz.func77, Tryz.ntmps77
 go_wp2_with fail
 go_loopg [1] (l.length - i) (fun gk t wr => ∃ k : Nat, gk = l.length - k /\ k <= l.length /\ t = .int .i64 (k : Int) /\ Hid (i + whileN C (l.drop i) = k + whileN C (l.drop k)) /\ Hid (LxE w wr b l))
 case atStart => exact ⟨i, rfl, hi, rfl, rfl, HE⟩
 case round =>
  rename_i J1 K1 hJ1 hK1; clear HE; obtain ⟨k, rfl, hk, rfl, hv, hw⟩ := hrel; have hz := hw.out.scan.lt; have c0 := hw.out.scan.text; by_cases hlt : k < l.length
  ·have Hn := Lib.hid (whileN_drop (C := C) hlt); have Ha := Lib.hid (atL_some hlt); go_wp2_with fail
   go_at_call 78
   refine (at_c b l k wr HL.out (by omega) hw.out.scan).mono ?_; rintro e W2 ⟨rfl, hb⟩; have HG2 := Lib.hid (HG.out.1.below (hw.out.below.trans (hb.mono hw.out.below.size))); have HE := hw.out.next hb; clear hb; go_wp2_with fail
   go_at_call 107
   refine (contains_c g c C (atL l k) W2 HG.out.2 HG2.out).mono ?_; rintro e W3 ⟨rfl, hb⟩; obtain rfl : W3 = W2 := hb; cases hc : C.contains (atL l k)
   ·have He : Hid (i + whileN C (l.drop i) = k) := by
     show _ = _; rw [hv.out, Hn.out, <- Ha.out, hc]
     rfl
    clear hc hv Hn Ha; go_wp2_with fail
    go_ret
    exact ⟨by rw [He.out]; rfl, HE.out.below⟩
   ·have He : Hid (i + whileN C (l.drop i) = k + 1 + whileN C (l.drop (k + 1))) := by
     show _ = _; rw [hv.out, Hn.out, <- Ha.out, hc, if_pos rfl]; omega
    clear hc hv Hn Ha; go_wp2_with fail
    go_roundg (l.length - (k + 1))
    case measure => omega
    case rel => exact ⟨k + 1, rfl, by omega, by go_num, He, HE⟩
  ·have He : Hid (i + whileN C (l.drop i) = k) := by
    show _ = _; rw [hv.out, whileN_end (by omega)]
    rfl
   clear hJ1 hK1 hv; go_wp2_with fail
   go_ret
   exact ⟨by rw [He.out]; rfl, hw.out.below⟩
theorem tk_drop (l : List UInt8) (k : Nat) : (l.drop k).take (l.length - k) = l.drop k := by rw [<- List.length_drop, List.take_length]
theorem indexByte_c (l : List UInt8) (c : UInt8) (w : World) : Calls Tryz.prog 79 #[.string (bs l), .int .u8 c.toNat] w fun e w' => e = .returned (.int .i64 (Lib.indexByte l c)) /\ w' = w := by
 have := Tryz.strings_IndexByte (bs l) (c.toNat : Int) w; rw [show (bs l).data.toList = l from bs_data l, show ((c.toNat : Int)).toNat.toUInt8 = c by simp] at this; exact this
theorem IsCls.new (w : World) (C : List Nat) : IsCls (w.alloc (.cells (C.map fun (k : Nat) => Value.int .i64 (k : Int)).toArray 3)) w.heap.size C :=
 ⟨by simp, fun j x hx => by
  rw [cell_of_heap (new_heap w _ _ rfl)]; simp [hx]⟩
set_option maxHeartbeats 2000000 in
theorem gap_c (b : Nat) (l : List UInt8) (i : Nat) (w : World) (hl : l.length <= 20000) (hi : i <= l.length) (hs : IsScan w b (bs l)) :
  Calls Tryz.prog 43 #[.pointer (some ⟨b, 0, none⟩), .int .i64 (i : Int)] w fun e w' => e = .returned (.int .i64 (gapE l i : Int)) /\ Below w.heap.size w w' := by
 have HE : Hid (LxE w w b l) := ⟨Below.refl _ _, hs⟩; have HL := Lib.hid hl; clear hs; obtain ⟨j0, hj0⟩ : ∃ j0, j0 = i + whileN [1] (l.drop i) := ⟨_, rfl⟩; have H0 := gap_start l i; have hj0l : j0 <= l.length := by
  have := whileN_le [1] (l.drop i); rw [List.length_drop] at this; omega
 rw [<- hj0] at H0; have Hj := Lib.hid hj0.symm; have HS : Hid (gapE l i = gapE l j0 /\ whileN [1] (l.drop j0) = 0) := H0; clear H0 hj0; go_enter Tryz.func43, Tryz.ntmps43
 go_wp2_with fail
 have HC := IsCls.new w [1]; have hbb : Below (w).heap.size w ((w).alloc (.cells #[.int .i64 1] 3)) := (Below.refl _ _).alloc (Nat.le_refl _) _; replace HE := HE.out.next hbb; clear hbb; have HC2 : Hid (IsCls ((w).alloc (.cells #[.int .i64 1] 3)) (w).heap.size [1]) := HC; clear HC; go_at_call 77
 refine (while_c b (w).heap.size 1 [1] l i _ HL.out (by omega) (by decide) HE.out.scan HC2.out).mono ?_; rintro e W1 ⟨rfl, hb⟩; clear HC2; replace HE := HE.out.next hb; clear hb; rw [Hj.out]; go_wp2_with fail
 go_loopg [1] (l.length - j0) (fun gk t wr => ∃ k : Nat, gk = l.length - k /\ k <= l.length /\ t = .int .i64 (k : Int) /\ Hid (gapE l i = gapE l k /\ whileN [1] (l.drop k) = 0) /\ Hid (LxE w wr b l))
 case atStart => exact ⟨j0, rfl, hj0l, rfl, HS, HE⟩
 case round =>
  rename_i J1 K1 hJ1 hK1; clear HE; obtain ⟨k, rfl, hk, rfl, hv, hw⟩ := hrel; clear HS Hj hj0l; go_wp2_with fail
  go_at_call 78
  refine (at_c b l k wr HL.out (by omega) hw.out.scan).mono ?_; rintro e W2 ⟨rfl, hb⟩; have HE := hw.out.next hb; clear hb hw; have hz := HE.out.scan.lt; have c0 := HE.out.scan.text; obtain ⟨A, hA⟩ : ∃ A, A = atL l k := ⟨_, rfl⟩; rw [<- hA]; have HA := Lib.hid hA.symm; clear hA; by_cases hA : A = 2
  ·subst hA; have Hq := Lib.hid (gap_none HA.out); have Hs := Lib.hid fun n => gap_some (n := n) HA.out; go_wp2_with fail
   rw [tk_drop]; go_at_call 79
   refine (indexByte_c (l.drop k) 10 W2).mono ?_; rintro e W3 ⟨rfl, hb⟩; obtain rfl : W3 = W2 := hb; obtain ⟨q, hq⟩ : ∃ q, q = Lib.indexByte (l.drop k) 10 := ⟨_, rfl⟩; rw [<- hq] at Hq Hs ⊢; clear hq; by_cases hq0 : q < 0
   ·have He : Hid (gapE l i = l.length) := hv.out.1.trans (Hq.out hq0); clear hv HA Hq Hs; go_wp2_with fail
    go_ret
    exact ⟨by rw [He.out]; rfl, HE.out.below⟩
   ·obtain ⟨N, rfl⟩ : ∃ N : Nat, q = N := ⟨q.toNat, by omega⟩; obtain ⟨s1, s2, s3⟩ := Hs.out N rfl; obtain ⟨j, hj⟩ : ∃ j, j = k + N + whileN [1] (l.drop (k + N)) := ⟨_, rfl⟩; have H0 := gap_start l (k + N); have hjl : j <= l.length := by
     have := whileN_le [1] (l.drop (k + N)); rw [List.length_drop] at this; omega
    have hkj : k < j := by omega
    rw [<- hj] at H0; have Hj := Lib.hid hj.symm; have HS : Hid (gapE l i = gapE l j /\ whileN [1] (l.drop j) = 0) := ⟨hv.out.1.trans (s1.trans H0.1), H0.2⟩; clear H0 hj hv HA Hq Hs s1 hq0 c0 hz; go_wp2_with fail
    rw [show (k : Int) + (N : Int) = ((k + N : Nat) : Int) from rfl]; have HC := IsCls.new W3 [1]; have hbb : Below (W3).heap.size W3 ((W3).alloc (.cells #[.int .i64 1] 3)) := (Below.refl _ _).alloc (Nat.le_refl _) _; replace HE := HE.out.next hbb; clear hbb; have HC2 : Hid (IsCls ((W3).alloc (.cells #[.int .i64 1] 3)) (W3).heap.size [1]) := HC; clear HC; go_at_call 77
    refine (while_c b (W3).heap.size 1 [1] l (k + N) _ HL.out (by omega) (by decide) HE.out.scan HC2.out).mono ?_; rintro e W4 ⟨rfl, hb⟩; clear HC2; replace HE := HE.out.next hb; clear hb; rw [Hj.out]; go_wp2_with fail
    go_roundg (l.length - j)
    case measure => omega
    case rel => exact ⟨j, rfl, hjl, rfl, HS, HE⟩
  ·have hA2 : ((A : Int) == 2) = false := by simp; omega
   have He : Hid (gapE l i = k) := hv.out.1.trans (gap_exit hv.out.2 (by rw [HA.out]; exact hA)); clear hv HA hA hJ1 hK1; go_wp2_with fail
   go_ret
   exact ⟨by rw [He.out]; rfl, HE.out.below⟩
end Go.Proofs.YtoeknmkephnekaaGreatDoor
namespace Go.Proofs.YtoeknmkephnekaaGreatDoor
open Go.RowKit Go.Cz Go.Cz.Lx
attribute [local go_sem] bs_size bs_extract bs_append bs_toList
attribute [local irreducible] cList
def tokV (t : Tok) : Value := .agg #[.int .i64 t.kind, .int .i64 t.pos, .int .i64 t.num, .string (bs t.text)]
def nextV (i : Nat) : Except Nat (Tok × Nat) -> Value
 | .ok (t, k) => .tuple #[tokV t, .int .i64 ((i + k : Nat) : Int), .int .i64 0]
 | .error e => .tuple #[.agg #[.int .i64 0, .int .i64 0, .int .i64 0, .string ⟨#[]⟩], .int .i64 0, .int .i64 (e : Int)]
def IdxAny : Prop := ∀ (l : List UInt8) (w : World), l.length <= 20000 -> Calls Tryz.prog 81 #[.string (bs l), .string ⟨#[34, 10]⟩] w fun e w' =>
  e = .returned (.int .i64 (match idxQ l with | some n => (n : Int) | none => -1)) /\ Below w.heap.size w w'
theorem cls_quote {c : UInt8} (h : cls c = 6) : c = 34 := all_bytes (p := fun c => cls c = 6 -> c = 34) (by decide +kernel) c h
theorem quote_mem {l : List UInt8} {i : Nat} (hi : i < l.length) (h : atL l i = 6) : 34 ∈ l := by
 rw [atL_some hi] at h; rw [<- cls_quote h]; exact List.getElem_mem hi
structure NxE (w W : World) (b : Nat) (l : List UInt8) (g : Nat) : Prop where
 below : Below w.heap.size w W
 scan : IsScan W b (bs l)
 own : w.heap.size <= g
 box : Bk W g #[.int .i64 0, .int .i64 0, .int .i64 0, .string ⟨#[]⟩] 40
theorem NxE.next {w W W' : World} {b g : Nat} {l : List UInt8} (h : NxE w W b l g) (hb : Below W.heap.size W W') : Hid (NxE w W' b l g) :=
 ⟨h.below.trans (hb.mono h.below.size), h.scan.below hb, h.own, h.box.below hb⟩
theorem NxE.cells {w W : World} {b g : Nat} {l : List UInt8} (h : NxE w W b l g) : b < W.heap.size /\ W.cell? ⟨b, 0, none⟩ = some (.string (bs l)) /\ g < W.heap.size /\ W.cell? ⟨g, 0, none⟩ = some (.int .i64 0) /\ W.cell? ⟨g, 1, none⟩ = some (.int .i64 0) /\ W.cell? ⟨g, 2, none⟩ = some (.int .i64 0) /\ W.cell? ⟨g, 3, none⟩ = some (.string ⟨#[]⟩) /\
  W.frozen? ⟨g, 0, none⟩ = false /\ W.frozen? ⟨g, 1, none⟩ = false /\ W.frozen? ⟨g, 2, none⟩ = false /\ W.frozen? ⟨g, 3, none⟩ = false :=
 ⟨h.scan.lt, h.scan.text, h.box.lt, by rw [h.box.cell]; rfl, by rw [h.box.cell]; rfl, by rw [h.box.cell]; rfl, by rw [h.box.cell]; rfl, h.box.free 0, h.box.free 1, h.box.free 2, h.box.free 3⟩
theorem NxE.store {w W : World} {b g : Nat} {l : List UInt8} (h : NxE w W b l g) (v0 v1 v2 v3 : Value) :
  Bk ((((W.setCell ⟨g, 0, none⟩ v0).setCell ⟨g, 1, none⟩ v1).setCell ⟨g, 2, none⟩ v2).setCell ⟨g, 3, none⟩ v3) g #[v0, v1, v2, v3] 40 /\
  Below w.heap.size w ((((W.setCell ⟨g, 0, none⟩ v0).setCell ⟨g, 1, none⟩ v1).setCell ⟨g, 2, none⟩ v2).setCell ⟨g, 3, none⟩ v3) :=
 ⟨(((h.box.set 0 v0).set 1 v1).set 2 v2).set 3 v3, (((h.below.setCell (p := ⟨g, 0, none⟩) h.own _).setCell (p := ⟨g, 1, none⟩) h.own _).setCell (p := ⟨g, 2, none⟩) h.own _).setCell (p := ⟨g, 3, none⟩) h.own _⟩
theorem hasPrefix_one (l : List UInt8) (i : Nat) : Lib.hasPrefix (l.drop (i + 1)) [61] = decide (l[i + 1]? = some 61) := by
 unfold Lib.hasPrefix; by_cases h : i + 1 < l.length
 ·rw [List.drop_eq_getElem_cons h, List.getElem?_eq_getElem h]; simp only [List.isPrefixOf, Bool.and_true, Option.some.injEq]; rw [Bool.eq_iff_iff, beq_iff_eq, decide_eq_true_iff]; exact eq_comm
 ·rw [List.drop_of_length_le (by omega), List.getElem?_eq_none (by omega)]
  rfl
theorem HasPrefix_c (l : List UInt8) (i : Nat) (w : World) : Calls Tryz.prog 82 #[.string (bs (l.drop (i + 1))), .string ⟨#[61]⟩] w fun e w' => e = .returned (.bool (decide (l[i + 1]? = some 61))) /\ w' = w := by
 have := Tryz.strings_HasPrefix (bs (l.drop (i + 1))) ⟨#[61]⟩ w; rw [show (bs (l.drop (i + 1))).data.toList = l.drop (i + 1) from bs_data _, show ((⟨#[61]⟩ : ByteArray)).data.toList = [61] from rfl, hasPrefix_one] at this; exact this
theorem Atoi_num (l : List UInt8) (w : World) (h : ∀ c ∈ l, 48 <= c.toNat /\ c.toNat <= 57) (h1 : 1 <= l.length) (h2 : l.length <= 13) : Calls Tryz.prog 80 #[.string (bs l)] w fun e w' => e = .returned (.tuple #[.int .i64 (numV l : Int), .nilIface]) /\ Below w.heap.size w w' := by
 refine (Tryz.strconv_Atoi_ok (bs l) (by rw [bs_size]; omega) _ (atoi_num h h1 h2).1 w).mono ?_; rintro e w' ⟨rfl, rfl | ⟨t, rfl⟩⟩
 ·exact ⟨rfl, Below.refl _ _⟩
 ·exact ⟨rfl, Lib.bytesWorld_below _ _ _⟩
theorem Next_res {W : World} {tmps : Array Value} {g : Nat} {v0 v1 v2 v3 : Value} (h4 : tmps.getD 4 undef = .pointer (some ⟨g, 0, none⟩)) (hb : Bk W g #[v0, v1, v2, v3] 40) :
  (results Tryz.f44 tmps).run Tryz.prog W = .ok (.tuple #[.agg #[v0, v1, v2, v3], tmps.getD 5 undef, tmps.getD 6 undef]) W := by
 have c0 : W.cell? ⟨g, 0, none⟩ = some v0 := by rw [hb.cell]; rfl
 have c1 : W.cell? ⟨g, 1, none⟩ = some v1 := by rw [hb.cell]; rfl
 have c2 : W.cell? ⟨g, 2, none⟩ = some v2 := by rw [hb.cell]; rfl
 have c3 : W.cell? ⟨g, 3, none⟩ = some v3 := by rw [hb.cell]; rfl
 have h4' : tmps[4]?.getD undef = .pointer (some ⟨g, 0, none⟩) := by simpa using h4
 simp [results, Tryz.results44, go_sem, h4', c0, c1, c2, c3]
theorem tk_drop' (l : List UInt8) (i : Nat) : (l.drop (i + 1)).take (l.length - (i + 1)) = l.drop (i + 1) := tk_drop l (i + 1)
set_option maxRecDepth 5000 in
set_option maxHeartbeats 4000000 in
theorem next_c (b : Nat) (l : List UInt8) (HI : 34 ∈ l -> IdxAny) (i : Nat) (w : World) (hl : l.length <= 20000) (hi : i < l.length) (hs : IsScan w b (bs l)) :
  Calls Tryz.prog 44 #[.pointer (some ⟨b, 0, none⟩), .int .i64 (i : Int)] w fun e w' => e = .returned (nextV i (nextL l i)) /\ Below w.heap.size w w' := by
 obtain ⟨g, hg⟩ : ∃ g, g = w.heap.size := ⟨_, rfl⟩; have HE : Hid (NxE w (w.alloc (.cells #[.int .i64 0, .int .i64 0, .int .i64 0, .string ⟨#[]⟩] 40)) b l g) := by
  have hb : Below w.heap.size w (w.alloc (.cells #[.int .i64 0, .int .i64 0, .int .i64 0, .string ⟨#[]⟩] 40)) := (Below.refl _ _).alloc (Nat.le_refl _) _; exact ⟨hb, hs.below hb, by omega, by rw [hg]; exact Bk.new _ _ _⟩
 have HL := Lib.hid hl; have HI2 := Lib.hid HI; clear hs HI; go_enter Tryz.func44, Tryz.ntmps44
 go_wp2_with fail
 rw [<- hg] at *; clear hg; obtain ⟨W1, hW1⟩ : ∃ W1, W1 = w.alloc (.cells #[.int .i64 0, .int .i64 0, .int .i64 0, .string ⟨#[]⟩] 40) := ⟨_, rfl⟩; rw [<- hW1] at HE ⊢; clear hW1; go_at_call 78
 refine (at_c b l i W1 HL.out (by omega) HE.out.scan).mono ?_; rintro e W2 ⟨rfl, hb⟩; replace HE := HE.out.next hb; clear hb; obtain ⟨z1, c0, z2, d0, d1, d2, d3, f0, f1, f2, f3⟩ := HE.out.cells; obtain ⟨A, hA⟩ : ∃ A, A = atL l i := ⟨_, rfl⟩; rw [<- hA]; have hA9 : A <= 9 := by rw [hA, atL_some hi]; exact cls_le _
 have HA := Lib.hid hA.symm; clear hA; by_cases h3 : A = 3
 ·subst h3; go_wp2_with fail
  clear z1 c0 z2 d0 d1 d2 d3 f0 f1 f2 f3; have HC := IsCls.new W2 [3, 4, 5]; have hbb : Below W2.heap.size W2 (W2.alloc (.cells #[.int .i64 3, .int .i64 4, .int .i64 5] 3)) := (Below.refl _ _).alloc (Nat.le_refl _) _; replace HE := HE.out.next hbb; clear hbb; have HC2 : Hid (IsCls (W2.alloc (.cells #[.int .i64 3, .int .i64 4, .int .i64 5] 3)) W2.heap.size [3, 4, 5]) := HC; clear HC; go_at_call 77
  refine (while_c b W2.heap.size 3 [3, 4, 5] l i _ HL.out (by omega) (by decide) HE.out.scan HC2.out).mono ?_; rintro e W3 ⟨rfl, hb⟩; clear HC2; replace HE := HE.out.next hb; clear hb; obtain ⟨K, hK⟩ : ∃ K, K = whileN [3, 4, 5] (l.drop i) := ⟨_, rfl⟩; have hw := whileN_le [3, 4, 5] (l.drop i); rw [<- hK]; rw [<- hK, List.length_drop] at hw; have hw1 : 1 <= K := by
   rw [hK, whileN_drop hi, <- atL_some hi, HA.out]; simp
  have hw2 : i + K <= l.length := by omega
  have HK := Lib.hid hK.symm; clear hw hK; obtain ⟨z1, c0, z2, d0, d1, d2, d3, f0, f1, f2, f3⟩ := HE.out.cells; by_cases h24 : 24 < K
  ·have He : Hid (nextL l i = .error 2) := by
    show _ = _; unfold nextL; rw [HA.out, HK.out]; simp [h24]
   clear HA HK; go_wp2_with fail
   refine bodyPost_ret (Next_res rfl (HE.out.store _ _ _ _).1) (by rfl) ⟨?_, (HE.out.store _ _ _ _).2⟩; rw [He.out]
   rfl
  ·have He : Hid (nextL l i = .ok (⟨1, i, 0, (l.drop i).take K⟩, K)) := by
    show _ = _; unfold nextL; rw [HA.out, HK.out]; simp [h24]
   clear HA HK; go_wp2_with fail
   refine bodyPost_ret (Next_res rfl (HE.out.store _ _ _ _).1) (by rfl) ⟨?_, (HE.out.store _ _ _ _).2⟩; rw [He.out]
   rfl
 by_cases h4 : A = 4
 ·subst h4; go_wp2_with fail
  clear z1 c0 z2 d0 d1 d2 d3 f0 f1 f2 f3; have HC := IsCls.new W2 [4]; have hbb : Below W2.heap.size W2 (W2.alloc (.cells #[.int .i64 4] 3)) := (Below.refl _ _).alloc (Nat.le_refl _) _; replace HE := HE.out.next hbb; clear hbb; have HC2 : Hid (IsCls (W2.alloc (.cells #[.int .i64 4] 3)) W2.heap.size [4]) := HC; clear HC; go_at_call 77
  refine (while_c b W2.heap.size 1 [4] l i _ HL.out (by omega) (by decide) HE.out.scan HC2.out).mono ?_; rintro e W3 ⟨rfl, hb⟩; clear HC2; replace HE := HE.out.next hb; clear hb; obtain ⟨K, hK⟩ : ∃ K, K = whileN [4] (l.drop i) := ⟨_, rfl⟩; have hw := whileN_le [4] (l.drop i); rw [<- hK]; rw [<- hK, List.length_drop] at hw; have hw1 : 1 <= K := by
   rw [hK, whileN_drop hi, <- atL_some hi, HA.out]; simp
  have hw2 : i + K <= l.length := by omega
  have HK := Lib.hid hK.symm; clear hw hK; obtain ⟨z1, c0, z2, d0, d1, d2, d3, f0, f1, f2, f3⟩ := HE.out.cells; go_wp2_with fail
  rw [show (i : Int) + (K : Int) = ((i + K : Nat) : Int) from rfl]; clear z1 c0 z2 d0 d1 d2 d3 f0 f1 f2 f3; go_at_call 78
  refine (at_c b l (i + K) W3 HL.out (by omega) HE.out.scan).mono ?_; rintro e W4 ⟨rfl, hb⟩; replace HE := HE.out.next hb; clear hb; obtain ⟨z1, c0, z2, d0, d1, d2, d3, f0, f1, f2, f3⟩ := HE.out.cells; obtain ⟨B, hB⟩ : ∃ B, B = atL l (i + K) := ⟨_, rfl⟩; rw [<- hB]; have HB := Lib.hid hB.symm; clear hB; by_cases h13 : 13 < K
  ·have He : Hid (nextL l i = .error 4) := by
    show _ = _; unfold nextL; rw [HA.out, HK.out, HB.out]; simp [h13]
   clear HA HK HB; go_wp2_with fail
   refine bodyPost_ret (Next_res rfl (HE.out.store _ _ _ _).1) (by rfl) ⟨?_, (HE.out.store _ _ _ _).2⟩; rw [He.out]
   rfl
  by_cases hB3 : B = 3
  ·have He : Hid (nextL l i = .error 4) := by
    show _ = _; unfold nextL; rw [HA.out, HK.out, HB.out]; simp [hB3]
   have q3 : ((B : Int) == 3) = true := by simp; omega
   clear HA HK HB hB3; go_wp2_with fail
   refine bodyPost_ret (Next_res rfl (HE.out.store _ _ _ _).1) (by rfl) ⟨?_, (HE.out.store _ _ _ _).2⟩; rw [He.out]
   rfl
  by_cases hB5 : B = 5
  ·have He : Hid (nextL l i = .error 4) := by
    show _ = _; unfold nextL; rw [HA.out, HK.out, HB.out]; simp [hB5]
   have q3 : ((B : Int) == 3) = false := by simp; omega
   have q5 : ((B : Int) == 5) = true := by simp; omega
   clear HA HK HB hB3 hB5; go_wp2_with fail
   refine bodyPost_ret (Next_res rfl (HE.out.store _ _ _ _).1) (by rfl) ⟨?_, (HE.out.store _ _ _ _).2⟩; rw [He.out]
   rfl
  have q3 : ((B : Int) == 3) = false := by simp; omega
  have q5 : ((B : Int) == 5) = false := by simp; omega
  have He : Hid (nextL l i = .ok (⟨2, i, numV ((l.drop i).take K), (l.drop i).take K⟩, K)) := by
   show _ = _; unfold nextL; rw [HA.out, HK.out, HB.out]; simp [h13, hB3, hB5]
  have hlen : ((l.drop i).take K).length = K := by rw [List.length_take, List.length_drop]; omega
  have hdig : ∀ c ∈ (l.drop i).take K, 48 <= c.toNat /\ c.toNat <= 57 := fun c hc => by
   rw [<- HK.out] at hc; have := whileN_mem hc; exact cls_digit (by simpa using this)
  have HAt := Lib.hid fun w => Atoi_num ((l.drop i).take K) w hdig (by omega) (by omega); have HN : Hid (numV ((l.drop i).take K) < 10000000000000) := (atoi_num hdig (by omega) (by omega)).2; clear HA HK HB hB3 hB5 hlen hdig; go_wp2_with fail
  clear z1 c0 z2 d0 d1 d2 d3 f0 f1 f2 f3; go_at_call 80
  refine (HAt.out W4).mono ?_; rintro e W5 ⟨rfl, hb⟩; replace HE := HE.out.next hb; clear hb HAt; obtain ⟨z1, c0, z2, d0, d1, d2, d3, f0, f1, f2, f3⟩ := HE.out.cells; go_wp2_with fail
  refine bodyPost_ret (Next_res rfl (HE.out.store _ _ _ _).1) (by rfl) ⟨?_, (HE.out.store _ _ _ _).2⟩; rw [He.out]
  rfl
 by_cases h6 : A = 6
 ·subst h6; have Hn : Hid (nextL l i = match idxQ (l.drop (i + 1)) with | none => .error 6 | some n => if (l.drop (i + 1))[n]? = some 10 then .error 6 else if 400 < n then .error 2 else .ok (⟨3, i, 0, (l.drop (i + 1)).take n⟩, n + 2)) := by
   show _ = _; unfold nextL; rw [HA.out]
   rfl
  have HI3 := Lib.hid (HI2.out (quote_mem hi HA.out)); clear HA; have hlt : (l.drop (i + 1)).length <= 20000 := by rw [List.length_drop]; omega
  have Hlt := Lib.hid hlt; clear hlt; go_wp2_with fail
  rw [tk_drop']; clear z1 c0 z2 d0 d1 d2 d3 f0 f1 f2 f3; go_at_call 81
  refine (HI3.out _ W2 Hlt.out).mono ?_; rintro e W3 ⟨rfl, hb⟩; replace HE := HE.out.next hb; clear hb; obtain ⟨z1, c0, z2, d0, d1, d2, d3, f0, f1, f2, f3⟩ := HE.out.cells; rcases hq : idxQ (l.drop (i + 1)) with _ | n
  ·have He : Hid (nextL l i = .error 6) := by
    have := Hn.out; rw [hq] at this; exact this
   clear Hn hq; dsimp only; go_wp2_with fail
   refine bodyPost_ret (Next_res rfl (HE.out.store _ _ _ _).1) (by rfl) ⟨?_, (HE.out.store _ _ _ _).2⟩; rw [He.out]
   rfl
  ·have hnl := idxQ_lt hq; obtain ⟨r, hr⟩ : ∃ r, r = l.drop (i + 1) := ⟨_, rfl⟩; have Hn2 := Hn.out; rw [hq] at Hn2; dsimp only at Hn2; rw [<- hr] at Hn2 hnl Hlt ⊢; have Hr := Lib.hid hr; clear Hn hq hr; obtain ⟨u, hu⟩ : ∃ u, u = bs r := ⟨_, rfl⟩; have kl : n < u.size := by rw [hu, bs_size]; exact hnl
   have hus : u.size <= 20000 := by rw [hu, bs_size]; exact Hlt.out
   obtain ⟨c, hc⟩ : ∃ c, u[n].toNat = c := ⟨_, rfl⟩; have hrn : r[n]? = some (UInt8.ofNat c) := by
    subst hu; rw [List.getElem?_eq_getElem hnl, <- hc]
    congr 1
    show r[n] = UInt8.ofNat (r[n].toNat); simp
   rw [<- hu]; have Hu := Lib.hid hu; clear hu; dsimp only; by_cases hc10 : c = 10
   ·have He : Hid (nextL l i = .error 6) := by
     show _ = _; rw [Hn2, hrn, hc10]
     rfl
    have q10 : ((c : Int) == 10) = true := by simp; omega
    clear Hn2 hrn hc10; go_wp2_with fail
    refine bodyPost_ret (Next_res rfl (HE.out.store _ _ _ _).1) (by rfl) ⟨?_, (HE.out.store _ _ _ _).2⟩; rw [He.out]
    rfl
   have q10 : ((c : Int) == 10) = false := by simp; omega
   have hc256 : c < 256 := by rw [<- hc]; exact UInt8.toNat_lt _
   have hne : ¬ (some (UInt8.ofNat c) = some (10 : UInt8)) := fun h => by
    injection h with h
    have := congrArg UInt8.toNat h; simp at this
    omega
   rw [hrn, if_neg hne] at Hn2; by_cases h400 : 400 < n
   ·rw [if_pos h400] at Hn2; have He := Lib.hid Hn2; clear Hn2 hrn hc10 hne; go_wp2_with fail
    refine bodyPost_ret (Next_res rfl (HE.out.store _ _ _ _).1) (by rfl) ⟨?_, (HE.out.store _ _ _ _).2⟩; rw [He.out]
    rfl
   ·rw [if_neg h400] at Hn2; have He := Lib.hid Hn2; have Hx : Hid (u.extract 0 n = bs (r.take n)) := by show _ = _; rw [Hu.out, bs_extract]; rfl
    clear Hn2 hrn hc10 hne; go_wp2_with fail
    rw [Hx.out]; refine bodyPost_ret (Next_res rfl (HE.out.store _ _ _ _).1) (by rfl) ⟨?_, (HE.out.store _ _ _ _).2⟩; rw [He.out]
    rfl
 by_cases h7 : A = 7
 ·subst h7; go_wp2_with fail
  rw [tk_drop']; go_at_call 82
  refine (HasPrefix_c l i W2).mono ?_; rintro e W3 ⟨rfl, hb⟩; obtain rfl : W3 = W2 := hb; by_cases h61 : l[i + 1]? = some 61
  ·rw [decide_eq_true h61]; have hi1 := (List.getElem?_eq_some_iff.1 h61).1; have He : Hid (nextL l i = .ok (⟨4, i, 0, (l.drop i).take 2⟩, 2)) := by
    show _ = _; unfold nextL; rw [HA.out]; simp [h61]
   clear HA h61; go_wp2_with fail
   refine bodyPost_ret (Next_res rfl (HE.out.store _ _ _ _).1) (by rfl) ⟨?_, (HE.out.store _ _ _ _).2⟩; rw [He.out]
   rfl
  ·rw [decide_eq_false h61]; have He : Hid (nextL l i = .error 3) := by
    show _ = _; unfold nextL; rw [HA.out]; simp [h61]
   clear HA h61; go_wp2_with fail
   refine bodyPost_ret (Next_res rfl (HE.out.store _ _ _ _).1) (by rfl) ⟨?_, (HE.out.store _ _ _ _).2⟩; rw [He.out]
   rfl
 by_cases h8 : A = 8
 ·subst h8; go_wp2_with fail
  rw [tk_drop']; go_at_call 82
  refine (HasPrefix_c l i W2).mono ?_; rintro e W3 ⟨rfl, hb⟩; obtain rfl : W3 = W2 := hb; by_cases h61 : l[i + 1]? = some 61
  ·rw [decide_eq_true h61]; have hi1 := (List.getElem?_eq_some_iff.1 h61).1; have He : Hid (nextL l i = .ok (⟨4, i, 0, (l.drop i).take 2⟩, 2)) := by
    show _ = _; unfold nextL; rw [HA.out]; simp [h61]
   clear HA h61; go_wp2_with fail
   refine bodyPost_ret (Next_res rfl (HE.out.store _ _ _ _).1) (by rfl) ⟨?_, (HE.out.store _ _ _ _).2⟩; rw [He.out]
   rfl
  ·rw [decide_eq_false h61]; have He : Hid (nextL l i = .ok (⟨4, i, 0, (l.drop i).take 1⟩, 1)) := by
    show _ = _; unfold nextL; rw [HA.out]; simp [h61]
   clear HA h61; go_wp2_with fail
   refine bodyPost_ret (Next_res rfl (HE.out.store _ _ _ _).1) (by rfl) ⟨?_, (HE.out.store _ _ _ _).2⟩; rw [He.out]
   rfl
 by_cases h9 : A = 9
 ·subst h9; have He : Hid (nextL l i = .ok (⟨4, i, 0, (l.drop i).take 1⟩, 1)) := by
   show _ = _; unfold nextL; rw [HA.out]; simp
  clear HA; go_wp2_with fail
  refine bodyPost_ret (Next_res rfl (HE.out.store _ _ _ _).1) (by rfl) ⟨?_, (HE.out.store _ _ _ _).2⟩; rw [He.out]
  rfl
 have He : Hid (nextL l i = .error 3) := by
  show _ = _; unfold nextL; rw [HA.out]; simp [h3, h4, h6, h7, h8, h9]
 have q3 : ((A : Int) == 3) = false := by simp; omega
 have q4 : ((A : Int) == 4) = false := by simp; omega
 have q6 : ((A : Int) == 6) = false := by simp; omega
 have q7 : ((A : Int) == 7) = false := by simp; omega
 have q8 : ((A : Int) == 8) = false := by simp; omega
 have q9 : ((A : Int) == 9) = false := by simp; omega
 clear h3 h4 h6 h7 h8 h9 HA hA9; go_wp2_with fail
 refine bodyPost_ret (Next_res rfl (HE.out.store _ _ _ _).1) (by rfl) ⟨?_, (HE.out.store _ _ _ _).2⟩; rw [He.out]
 rfl
end Go.Proofs.YtoeknmkephnekaaGreatDoor
namespace Go.Proofs.YtoeknmkephnekaaGreatDoor
open Go.RowKit Go.Cz Go.Cz.Lx
set_option maxRecDepth 100000 in
theorem built_scan (u : ByteArray) : Tryz.prog.built 81 [(0, .string u), (1, .agg clsTab)] = some (#[.string u] ++ clsTab) := by kernel_rfl
theorem wpList_build_to {P : Program} {ops : Array Oper} {rest : List Oper} {o : Oper} {a : Act} {w : World} {Q : Exit -> Act -> World -> Prop} (hg : o.guard = none) (t : TypeId) (parts : Array (Nat × Operand)) (ho : o.op = .build t parts) (cells : Array Value)
  (ps : List (Nat × Value)) (hp : (parts.map fun (i, x) => (i, a.eval x)).toList = ps) (hc : P.built t ps = some cells) (h : wpList P ops Q rest (a.put o.dst (.agg cells)) w) : wpList P ops Q (o :: rest) a w :=
 wpList_build hg t parts ho (by rw [hp, hc]; rfl) (by rw [hp, hc]; exact h)
theorem zero_scan : (Tryz.zeroCells81).size = 257 := by kernel_rfl
def ScanCells (u : ByteArray) (cs : Array Value) : Prop := cs.size = 257 /\ cs.all (·.oneCell') = true /\ cs[0]? = some (.string u) /\ ∀ c : Nat, c < 256 -> cs[1 + c]? = some (.int .i64 (cls (UInt8.ofNat c) : Int))
theorem scanCells (u : ByteArray) : ScanCells u (#[.string u] ++ clsTab) := by
 refine ⟨by rw [Array.size_append, clsTab_size]; rfl, ?_, by rw [Array.getElem?_append_left (by simp)]; rfl, fun c hc => ?_⟩
 ·rw [Array.all_append, clsTab_one]; simp [Value.oneCell']
 ·rw [Array.getElem?_append_right (by simp)]; have := clsTab_at hc
  simpa using this
theorem scan_of_cells {W : World} {b : Nat} {u : ByteArray} {cs : Array Value} {t : TypeId} (h : W.heap[b]? = some (.cells cs t (0, 0))) (hc : ScanCells u cs) : IsScan W b u :=
 ⟨lt_of_block h, by rw [cell_of_heap h]; exact hc.2.2.1, fun c h2 => by rw [cell_of_heap h]; exact hc.2.2.2 c h2⟩
end Go.Proofs.YtoeknmkephnekaaGreatDoor
namespace Go.Proofs.YtoeknmkephnekaaGreatDoor
open Go.RowKit Go.Cz Go.Cz.Lx
attribute [local go_sem] bs_size bs_extract bs_append bs_toList
attribute [local irreducible] cList
def tcells (t : Tok) : List Value := [.int .i64 t.kind, .int .i64 t.pos, .int .i64 t.num, .string (bs t.text)]
def IsToks (W : World) (v : Value) (ts : List Tok) : Prop := (ts = [] /\ v = .slice none 0 0) ∨ ∃ g c, v = .slice (some ⟨g, 0, none⟩) ts.length c /\ ts.length <= c /\ g < W.heap.size /\ ∀ (j : Nat) (t : Tok), ts[j]? = some t ->
  W.cell? ⟨g, j * 4, none⟩ = some (.int .i64 t.kind) /\ W.cell? ⟨g, j * 4 + 1, none⟩ = some (.int .i64 t.pos) /\ W.cell? ⟨g, j * 4 + 2, none⟩ = some (.int .i64 t.num) /\ W.cell? ⟨g, j * 4 + 3, none⟩ = some (.string (bs t.text))
theorem flat_tcells : ∀ (ts : List Tok) (j k : Nat) (t : Tok), ts[j]? = some t -> k < 4 -> (ts.flatMap tcells)[j * 4 + k]? = (tcells t)[k]?
 | [], j, k, t, h, _ => by simp at h
 | a :: r, 0, k, t, h, hk => by
  simp at h; subst h
  rw [List.flatMap_cons, Nat.zero_mul, Nat.zero_add, List.getElem?_append_left (by simp [tcells]; exact hk)]
 | a :: r, j + 1, k, t, h, hk => by
  rw [List.flatMap_cons, List.getElem?_append_right (by simp [tcells]; omega)]; have : (j + 1) * 4 + k - (tcells a).length = j * 4 + k := by simp [tcells]; omega
  rw [this]; exact flat_tcells r j k t (by simpa using h) hk
theorem toks_of_row {V W : World} {v : Value} {ts : List Tok} (h : ORow 40 4 V W v ts.length (ts.flatMap tcells)) : IsToks W v ts := by
 rcases h.at with ⟨h1, h2⟩ | ⟨g, c, h1, h2, h3, h4, h5⟩
 ·exact .inl ⟨List.length_eq_zero_iff.1 h2, h1⟩
 ·refine .inr ⟨g, c, h1, h2, h4, fun j t ht => ⟨h5 _ _ ?_, h5 _ _ ?_, h5 _ _ ?_, h5 _ _ ?_⟩⟩
  ·exact (flat_tcells ts j 0 t ht (by omega)).trans rfl
  ·exact (flat_tcells ts j 1 t ht (by omega)).trans rfl
  ·exact (flat_tcells ts j 2 t ht (by omega)).trans rfl
  ·exact (flat_tcells ts j 3 t ht (by omega)).trans rfl
theorem info_tok : (Tryz.prog.info? 40).map (fun i => (i.zero, i.size, i.bytes)) = some (some (.agg #[.int .i64 0, .int .i64 0, .int .i64 0, .string ⟨#[]⟩]), 4, 40) := by kernel_rfl
def LexPost (w : World) (l : List UInt8) (e : Ending) (w' : World) : Prop := ∃ v, e = .returned (.tuple #[v, .int .i64 (lexAll l).2.1, .int .i64 (lexAll l).2.2]) /\ IsToks w' v (lexAll l).1 /\ Below w.heap.size w w'
theorem TokStep {V W4 w2 : World} {v v' : Value} {acc : List Tok} {t : Tok} {o1 o2 : Obj} (h : ORow 40 4 V W4 v acc.length (acc.flatMap tcells)) (hrow : w2.ownsRow 0 40 4 v' (acc.length + 1) (acc.flatMap tcells ++ tcells t))
  (hgrow : ((W4.alloc o1).alloc o2).grownBy w2 v.ownBlock) (hblk : v'.ownBlock = v.ownBlock ∨ v'.ownBlock = some ((W4.alloc o1).alloc o2).heap.size) : ORow 40 4 V w2 v' (acc ++ [t]).length ((acc ++ [t]).flatMap tcells) := by
 have hb : Below W4.heap.size W4 ((W4.alloc o1).alloc o2) := ((Below.refl _ _).alloc (Nat.le_refl _) _).alloc (by simp) _; have := (h.keep hb).step hrow hgrow hblk
 simpa using this
set_option maxRecDepth 100000 in
set_option maxHeartbeats 400000 in
theorem Lex_c (l : List UInt8) (HI : 34 ∈ l -> IdxAny) (w : World) (hl : l.length <= 140737488355328) : Calls Tryz.prog 14 #[.string (bs l)] w (LexPost w l) := by
 by_cases h2 : 20000 < l.length
 ·have He : Hid (lexAll l = ([], 2, -1)) := if_pos h2; go_enter Tryz.func14, Tryz.ntmps14
  go_wp2_with fail
  refine bodyPost_ret (results_tmp3 rfl _ _ _) (by rfl) ⟨.slice none 0 0, ?_, ?_, Below.refl _ _⟩
  ·rw [He.out]; rfl
  ·rw [He.out]; exact .inl ⟨rfl, rfl⟩
 have hl2 : l.length <= 20000 := by omega
 have HL := Lib.hid hl2; have HI2 := Lib.hid HI; clear HI; go_enter Tryz.func14, Tryz.ntmps14
 go_wp2_with fail
 go_at_call 42
 refine (classes_c w).mono ?_; rintro e W1 ⟨rfl, hb⟩; have Hb := Lib.hid hb; clear hb; obtain ⟨ct, hct⟩ : ∃ ct, ct = clsTab := ⟨_, rfl⟩; obtain ⟨cs, hcs, hbt⟩ : ∃ cs, ScanCells (bs l) cs /\ Tryz.prog.built 81 [(0, .string (bs l)), (1, .agg ct)] = some cs := ⟨_, scanCells (bs l), by rw [hct]; exact built_scan (bs l)⟩; rw [<- hct]; have Hcs := Lib.hid hcs; have Hbt := Lib.hid hbt; clear hct hcs hbt; rename_i hnext; refine hnext _ _ ?_; refine wpList_build_to rfl 81 #[(0, .tmp 14), (1, .tmp 15)] (by rfl) cs _ (by simp [Act.eval]; rfl) (by exact Hbt.out) ?_; have hc1 : cs.size = 257 := Hcs.out.1; go_wp2_with fail
 rw [storeCells_row (P := Tryz.prog) _ W1.heap.size 81 _ cs (new_heap W1 _ _ rfl) (by rw [hc1]; exact zero_scan) Hcs.out.2.1]; simp only [Result.andThen_ok]; go_wp2_with fail
 obtain ⟨b, hb⟩ : ∃ b, b = W1.heap.size := ⟨_, rfl⟩; obtain ⟨W2, hW2⟩ : ∃ W2, W2 = (W1.alloc (.cells Tryz.zeroCells81 81)).setRow W1.heap.size cs := ⟨_, rfl⟩; have HE : Hid (LxE w W2 b l /\ w.heap.size <= b) := by
  have h1 : (W1.alloc (.cells Tryz.zeroCells81 81)).heap[W1.heap.size]? = some (.cells Tryz.zeroCells81 81 (0, 0)) := new_heap W1 _ _ rfl; have hbb := Hb.out; have hm : Mod [W1.heap.size] W1 W2 := by
   rw [hW2]; exact ((Mod.refl [W1.heap.size] W1).alloc _).trans ⟨rfl, rfl, rfl, by simp, fun k _ hk => setRow_other _ _ _ _ (by simpa using hk)⟩
  refine ⟨⟨hbb.trans ⟨hm.os, hm.tape, hm.output, hm.size, fun k hk => hm.block k (Nat.lt_of_lt_of_le hk hbb.size) (by simp; have := hbb.size; omega)⟩, ?_⟩, by rw [hb]; exact hbb.size⟩; rw [hb, hW2]; exact scan_of_cells (setRow_heap _ _ _ _ _ _ h1) Hcs.out
 rw [<- hW2, <- hb]; clear hb hW2 hc1 Hbt Hcs Hb; go_at_call 43
 refine (gap_c b l 0 W2 HL.out (by omega) HE.out.1.scan).mono ?_; rintro e W3 ⟨rfl, hb⟩; have HE2 : Hid (LxE w W2 b l) := HE.out.1; have HB3 := Lib.hid hb; clear hb HE; have hg0 := gapE_le l 0 (by omega); have H0 := Lib.hid (lexI_start l); go_wp2_with fail
 go_loopg [6, 7] (l.length - gapE l 0) (fun gk v i wr => ∃ (k : Nat) (acc : List Tok), gk = l.length - k /\ k <= l.length /\ i = .int .i64 (k : Int) /\ acc.length <= 5000 /\ Hid (LexI l k acc) /\ Hid (ORow 40 4 W2 wr v acc.length (acc.flatMap tcells)))
 case atStart => exact ⟨gapE l 0, [], rfl, hg0, rfl, by simp, H0, ORow.nil HB3.out⟩
 case round =>
  rename_i J1 K1 hJ1 hK1; clear HB3 H0 hnext hg0; obtain ⟨k, acc, rfl, hk, rfl, h5, hL, hR⟩ := hrel; have hw := HE2.out.next hR.out.below; obtain ⟨sa, sc, rfl⟩ := hR.out.form; by_cases hlt : k < l.length
  ·go_wp2_with fail
   go_at_call 44
   refine (next_c b l HI2.out k wr HL.out hlt hw.out.scan).mono ?_; rintro e W4 ⟨rfl, hb⟩; have HE := hw.out.next hb; have HR := Lib.hid (hR.out.keep hb); clear hb hw hR; rcases hn : nextL l k with e | ⟨t, m⟩
   ·have he0 : ((e : Int) == 0) = false := by have := nextL_err hn; simp; omega
    have he1 : ((e : Int) != 0) = true := by have := nextL_err hn; simp; omega
    have He := Lib.hid (lexI_err hL.out hlt HL.out hn); clear hn hL; simp only [nextV]; go_wp2_with fail
    refine bodyPost_ret (results_tmp3 rfl _ _ _) (by rfl) ⟨.slice none 0 0, ?_, ?_, ?_⟩
    ·rw [He.out]; rfl
    ·rw [He.out]; exact .inl ⟨rfl, rfl⟩
    ·exact HE.out.below.trans (Below.mono ((Below.refl _ _).alloc (Nat.le_refl _) _) HE.out.below.size)
   ·obtain ⟨n1, n2⟩ := nextL_width hn hlt; simp only [nextV, tokV]; by_cases hf : acc.length = 5000
    ·have hf1 : ((acc.length : Int) == 5000) = true := by simp; omega
     have He := Lib.hid (lexI_full hL.out hlt HL.out hn hf); clear hn hL hf h5; go_wp2_with fail
     refine bodyPost_ret (results_tmp3 rfl _ _ _) (by rfl) ⟨.slice none 0 0, ?_, ?_, ?_⟩
     ·rw [He.out]; rfl
     ·rw [He.out]; exact .inl ⟨rfl, rfl⟩
     ·exact HE.out.below.trans (Below.mono ((Below.refl _ _).alloc (Nat.le_refl _) _) HE.out.below.size)
    ·have hf1 : ((acc.length : Int) == 5000) = false := by simp; omega
     have HN := Lib.hid (lexI_next hL.out hlt hn hf); have hlen : acc.length <= 4999 := by omega
     clear hn hL hf h5; go_wp2_with (refine wpList_plain rfl fun K hK => wp_append (.tmp 41) (.tmp 43) 36 (by rfl) 40 _ 4 40 Tryz.underlying36 info_tok (by rfl) (by omega) _ acc.length _ (by rfl) ((HR.out.row.alloc _).alloc _) (W4.heap.size + 1) 1 1 (tcells t) (by rfl) (by rfl) 40 (by exact new_heap (W4.alloc _) _ _ (by simp)) (by simp [tcells, Value.oneCell']) (by omega) (by omega) ?_; intro v' w2 hrow hgrow hblk; have HR2 := Lib.hid (TokStep HR.out hrow hgrow hblk); clear hrow hgrow hblk)
     rw [show (k : Int) + (m : Int) = ((k + m : Nat) : Int) from rfl]; have HE4 := HE2.out.next HR2.out.below; go_at_call 43
     refine (gap_c b l (k + m) w2 HL.out n2 HE4.out.scan).mono ?_; rintro e W5 ⟨rfl, hb⟩; have HR5 := Lib.hid (HR2.out.keep hb); clear hb HR2 HE4; have hge := gapE_le l (k + m) n2; have hgk : k < gapE l (k + m) := by unfold gapE; omega
     go_wp2_with fail
     go_roundg (l.length - gapE l (k + m))
     case measure => omega
     case rel => exact ⟨gapE l (k + m), acc ++ [t], rfl, hge, rfl, by simp; omega, HN, HR5⟩
  ·have He := Lib.hid (lexI_end hL.out (by omega) HL.out); clear hL hJ1 hK1; go_wp2_with fail
   refine bodyPost_ret (results_tmp3 rfl _ _ _) (by rfl) ⟨.slice sa acc.length sc, ?_, ?_, hw.out.below⟩
   ·rw [He.out]; rfl
   ·rw [He.out]; exact toks_of_row hR.out
end Go.Proofs.YtoeknmkephnekaaGreatDoor
namespace Go.Cz.Lx
theorem idxQ_any : ∀ l : List UInt8, (match idxQ l with | some n => (n : Int) | none => -1) = Lib.indexAny l [34, 10]
 | [] => rfl
 | c :: r => by
  have ih := idxQ_any r; have hc : ([34, 10] : List UInt8).contains c = decide (c = 34 ∨ c = 10) := by
   rw [Bool.eq_iff_iff]; simp
  unfold idxQ Lib.indexAny; rw [hc, <- ih]; by_cases h : c = 34 ∨ c = 10
  ·simp [h]
  ·simp only [h, if_false, decide_false]; cases idxQ r with
   | none => rfl
   | some n =>
    show ((n + 1 : Nat) : Int) = if ((n : Int) == -1) = true then -1 else (n : Int) + 1
    rw [if_neg (by simp)]
    rfl
theorem get_at (s : ByteArray) (i : Nat) (h : i < s.size) : s.get! i = s[i]'h := by
 simp [ByteArray.get!, getElem!_pos, h]
 rfl
theorem decode_bytes (s : ByteArray) (pos : Nat) (h : pos < s.size) (ha : 128 <= (s[pos]'h).toNat) :
  pos + (Utf8.decode s pos).2 <= s.size /\ ∀ j, pos <= j -> j < pos + (Utf8.decode s pos).2 -> ∀ hj : j < s.size, 128 <= (s[j]'hj).toNat := by
 have hc : ∀ k, (decide (pos + k < s.size) && ((s.get! (pos + k)).toNat / 64 == 2)) = true -> ∃ hj : pos + k < s.size, 128 <= (s[pos + k]'hj).toNat := by
  intro k hk; simp only [Bool.and_eq_true, decide_eq_true_eq, beq_iff_eq] at hk; refine ⟨hk.1, ?_⟩; have := hk.2; rw [get_at s _ hk.1] at this; omega
 have one : pos + 1 <= s.size /\ ∀ j, pos <= j -> j < pos + 1 -> ∀ hj : j < s.size, 128 <= (s[j]'hj).toNat := ⟨by omega, fun j h1 h2 hj => (by
  have e : j = pos := by omega
  subst e; exact ha)⟩
 have hn : ¬ (s[pos]'h).toNat < 128 := by omega
 simp only [Utf8.decode, Nat.add_zero, get_at s pos h, hn, if_false]
 split
 ·rename_i h1; obtain ⟨q1, a1⟩ := hc 1 (by simp only [Bool.and_eq_true] at h1; exact Bool.and_eq_true_iff.2 h1.2)
  split
  ·exact ⟨by show pos + 2 <= _; omega, fun j h2 h3 hj => by
    rcases (by have : j < pos + 2 := h3; omega : j = pos ∨ j = pos + 1) with rfl | rfl
    ·exact ha
    ·exact a1⟩
  ·exact one
 split
 ·rename_i h1; simp only [Bool.and_eq_true] at h1; obtain ⟨q1, a1⟩ := hc 1 (Bool.and_eq_true_iff.2 h1.1.2); obtain ⟨q2, a2⟩ := hc 2 (Bool.and_eq_true_iff.2 h1.2)
  split
  ·exact ⟨by show pos + 3 <= _; omega, fun j h2 h3 hj => by
    rcases (by have : j < pos + 3 := h3; omega : j = pos ∨ j = pos + 1 ∨ j = pos + 2) with rfl | rfl | rfl
    ·exact ha
    ·exact a1
    ·exact a2⟩
  ·exact one
 split
 ·rename_i h1; simp only [Bool.and_eq_true] at h1; obtain ⟨q1, a1⟩ := hc 1 (Bool.and_eq_true_iff.2 h1.1.1.2); obtain ⟨q2, a2⟩ := hc 2 (Bool.and_eq_true_iff.2 h1.1.2); obtain ⟨q3, a3⟩ := hc 3 (Bool.and_eq_true_iff.2 h1.2)
  split
  ·exact ⟨by show pos + 4 <= _; omega, fun j h2 h3 hj => by
    rcases (by have : j < pos + 4 := h3; omega : j = pos ∨ j = pos + 1 ∨ j = pos + 2 ∨ j = pos + 3) with rfl | rfl | rfl | rfl
    ·exact ha
    ·exact a1
    ·exact a2
    ·exact a3⟩
  ·exact one
 ·exact one
end Go.Cz.Lx
namespace Go.Proofs.YtoeknmkephnekaaGreatDoor
open Go.RowKit Go.Cz Go.Cz.Lx
set_option maxHeartbeats 2000000 in
theorem ValidRune_c (r : Int) (w : World) : Calls Tryz.prog 142 #[.int .i32 r] w fun e w' => e = .returned (.bool (validRune r)) /\ w' = w := by
 obtain ⟨q, hq⟩ : ∃ q, q = validRune r := ⟨_, rfl⟩; rw [<- hq]; unfold validRune at hq; go_enter Tryz.func142, Tryz.ntmps142
 by_cases h1 : 0 <= r /\ r < 55296
 ·obtain rfl : q = true := by rw [hq]; exact decide_eq_true (Or.inl h1)
  clear hq; obtain ⟨h1, h2⟩ := h1; go_wp2_with fail
  go_ret
  exact ⟨rfl, rfl⟩
 by_cases h2 : 57343 < r /\ r <= 1114111
 ·obtain rfl : q = true := by rw [hq]; exact decide_eq_true (Or.inr h2)
  clear hq; obtain ⟨h2, h3⟩ := h2; have h4 : ¬ r < 55296 := by omega
  clear h1; go_wp2_with fail
  go_ret
  exact ⟨rfl, rfl⟩
 obtain rfl : q = false := by rw [hq]; exact decide_eq_false (by omega)
 clear hq; by_cases h3 : 0 <= r
 ·have h4 : ¬ r < 55296 := by omega
  by_cases h5 : 57343 < r
  ·have h6 : ¬ r <= 1114111 := by omega
   clear h1 h2; go_wp2_with fail
   go_ret
   exact ⟨rfl, rfl⟩
  ·clear h1 h2; go_wp2_with fail
   go_ret
   exact ⟨rfl, rfl⟩
 ·have h5 : ¬ 57343 < r := by omega
  clear h1 h2; go_wp2_with fail
  go_ret
  exact ⟨rfl, rfl⟩
theorem inBlock_ret (id : Nat) (Q : Exit -> Act -> World -> Prop) (a : Act) (w : World) : Exit.inBlock id Q Exit.ret a w = Q Exit.ret a w := rfl
theorem then_ret (K : Act -> World -> Prop) (Q : Exit -> Act -> World -> Prop) (a : Act) (w : World) : Exit.then K Q Exit.ret a w = Q Exit.ret a w := rfl
def World.iterTo (w : World) (k : Nat) (o : Obj) : World := { w with heap := w.heap.setIfInBounds k o }
theorem iterTo_heap {w : World} {k : Nat} {o o' : Obj} (h : w.heap[k]? = some o') : (World.iterTo w k o).heap[k]? = some o := by
 have := lt_of_block h; simp [World.iterTo, this]
theorem Below.iterTo {B : Nat} {a w : World} (h : Below B a w) {k : Nat} (hk : B <= k) (o : Obj) : Below B a (World.iterTo w k o) :=
 h.trans ⟨rfl, rfl, rfl, by simp [World.iterTo], fun j hj => by simp only [World.iterTo]; rw [Array.getElem?_setIfInBounds, if_neg (by omega)]⟩
theorem next_at (w : World) (k : Nat) (s : ByteArray) (pos : Nat) (ty : TypeId) (hk : w.heap[k]? = some (.stringIter s pos)) (h : pos < s.size) :
  (Instr.next (.pointer (some ⟨k, 0, none⟩)) true ty).run Tryz.prog w = .ok (.tuple #[.bool true, .int .i64 pos, .int .i32 (Utf8.decode s pos).1]) (World.iterTo w k (.stringIter s (pos + (Utf8.decode s pos).2))) := by
 simp only [Instr.next, getObj, setObj, Sem.run_bind, Sem.run, hk, Result.andThen, h, if_true]; simp [goInt, World.iterTo]
theorem next_over (w : World) (k : Nat) (s : ByteArray) (pos : Nat) (ty : TypeId) (hk : w.heap[k]? = some (.stringIter s pos)) (h : ¬ pos < s.size) :
  (Instr.next (.pointer (some ⟨k, 0, none⟩)) true ty).run Tryz.prog w = .ok (.tuple #[.bool false]) w := by
 simp [Instr.next, getObj, Sem.run, hk, h]
theorem indexByte_none (u : ByteArray) (c : UInt8) (w : World) (h : u.data.toList = []) : Calls Tryz.prog 79 #[.string u, .int .u8 c.toNat] w fun e w' => e = .returned (.int .i64 (-1)) /\ w' = w := by
 have := Tryz.strings_IndexByte u (c.toNat : Int) w; rw [h] at this; exact this
set_option maxRecDepth 10000 in
set_option maxHeartbeats 4000000 in
theorem IndexRune_high (ch : ByteArray) (hch : ch = ⟨#[34, 10]⟩) (r : Int) (w : World) (h0 : 128 <= r) (h1 : r <= 2147483647) : Calls Tryz.prog 111 #[.string ch, .int .i32 r] w fun e w' => e = .returned (.int .i64 (-1)) /\ Below w.heap.size w w' := by
 have hsz : ch.size = 2 := by rw [hch]; rfl
 have h10 : ∀ h : 1 < ch.size, (ch[1]'h).toNat = 10 := by subst hch; intro h; rfl
 have hlow : ∀ (i : Nat) (h : i < ch.size), (ch[i]'h).toNat < 128 := by
  subst hch; intro i h; have h2 : i < 2 := h; rcases i with _ | _ | i
  ·show (34 : UInt8).toNat < 128
   decide
  ·show (10 : UInt8).toNat < 128
   decide
  ·omega
 have hnil : ∀ b, (ch.extract 2 b).data.toList = [] := by
  intro b; subst hch; rw [show (⟨#[34, 10]⟩ : ByteArray) = bs [34, 10] from rfl, bs_extract]; simp [bs]
 have HC : Hid ((∀ h : 1 < ch.size, (ch[1]'h).toNat = 10) /\ (∀ (i : Nat) (h : i < ch.size), (ch[i]'h).toNat < 128) /\ (∀ b, (ch.extract 2 b).data.toList = [])) := ⟨h10, hlow, hnil⟩; clear h10 hlow hnil hch; have hr0 : ¬ r < 128 := by omega
 by_cases hE : r = 65533
 ·subst hE; go_enter Tryz.func111, Tryz.ntmps111
  go_wp2_with fail
  go_loopg [5, 6] (2 : Nat) (fun g _ _ wx => ∃ i : Nat, i + g = 2 /\ wx = w.iter ch i)
  case atStart => exact ⟨0, by omega, rfl⟩
  case round =>
   obtain ⟨i, hig, rfl⟩ := hrel; cases gk with
   | zero =>
    obtain rfl : i = 2 := by omega
    have hnx := fun ty => run_next_end (P := Tryz.prog) w ch 2 ty (by omega); go_wp2_with fail
    go_ret
    exact ⟨rfl, (Below.refl _ _).alloc (Nat.le_refl _) _⟩
   | succ g =>
    have hi : i < ch.size := by omega
    have hx128 := HC.out.2.1 i hi; have hnx := fun ty => run_next_ascii (P := Tryz.prog) w ch i ty hi hx128; obtain ⟨x, hx⟩ : ∃ x : Int, x = ((ch[i]'hi).toNat : Int) := ⟨_, rfl⟩; have hxE : (x == 65533) = false := by simp; omega
    rw [<- hx] at hnx; clear hx hx128; go_wp2_with fail
    go_roundg g
    case measure => omega
    case rel => exact ⟨i + 1, by omega, rfl⟩
 ·have hE1 : (r == 65533) = false := by simpa using hE
  cases hv : validRune r
  ·go_enter Tryz.func111, Tryz.ntmps111
   go_wp2_with fail
   go_at_call 142
   refine (ValidRune_c r w).mono ?_; rintro e w' ⟨rfl, rfl⟩; rw [hv]; go_wp2_with fail
   go_ret
   exact ⟨rfl, Below.refl _ _⟩
  ·obtain ⟨q1, q2, q3⟩ := encode_facts r (by rw [validRune_eq]; exact hv) h0; obtain ⟨v, hvv⟩ : ∃ v, v = Utf8.encode r := ⟨_, rfl⟩; rw [<- hvv] at q1 q2 q3; have Hvv := Lib.hid hvv.symm; clear hvv; go_enter Tryz.func111, Tryz.ntmps111
   go_wp2_with fail
   go_at_call 142
   refine (ValidRune_c r w).mono ?_; rintro e w' ⟨rfl, rfl⟩; rw [hv]; go_wp2_with fail
   go_step3
   go_wp2_with fail
   rw [Hvv.out]; by_cases h2 : v.size = 2
   ·obtain ⟨c, hc⟩ : ∃ c : UInt8, ∀ h : 1 < v.size, v[1]'h = c := ⟨v[1]'(by omega), fun _ => rfl⟩; have hc128 : 128 <= c.toNat := by
     have h3 := q3 (by omega); have e : v[v.size - 1]'(by omega) = v[1]'(by omega) := by congr 1; omega
     rw [e, hc] at h3; exact h3
    have hx : ∀ h : 1 < ch.size, ((ch[1]'h).toNat : Int) = 10 := fun h => by rw [HC.out.1 h]; rfl
    have hne2 : ((10 : Int) != (c.toNat : Int)) = true := by simp; omega
    have k1 : 1 < ch.size := by omega
    have k2 : 1 < v.size := by omega
    have hx1 := hx k1; have hc1 := hc k2; clear q1 q2 q3 hx hc; go_wp2_with fail
    have hw8 : wrap64 ((v.size : Int) - 1) = 1 := by rw [h2]; decide +kernel
    rw [hw8]; go_loopg [9] (0 : Nat) (fun gk i wx => gk = 0 /\ i = .int .i64 1 /\ wx = w')
    case atStart => exact ⟨rfl, rfl, rfl⟩
    case round =>
     obtain ⟨rfl, rfl, rfl⟩ := hrel; clear hw8; have hnil := HC.out.2.2 2; go_wp2_with fail
     go_step3
     go_wp2_with fail
     refine wp_region_can [] (List.range 7) (by kernel_rfl) (by kernel_rfl) ?_; iterate 7 (refine cl_do rfl rfl rfl rfl (fun _ _ => ?_); go_wp2_with fail)
     refine cl_nil ?_; go_wp2_with fail
     refine wp_region_can [7] (List.range 9) (by kernel_rfl) (by kernel_rfl) ?_; iterate 7 (refine cl_do rfl rfl rfl rfl (fun _ _ => ?_); go_wp2_with fail)
     refine cl_call (i := 7) rfl rfl rfl (fun K hK => ?_); go_wp2_with fail
     go_at_call 79
     refine (indexByte_none _ c _ rfl).mono ?_; rintro e w2 ⟨rfl, rfl⟩; go_wp2_with fail
     refine And.intro (Below.refl _ _) ?_; refine cl_do rfl rfl rfl rfl (fun _ _ => ?_); go_wp2_with fail
     refine cl_nil ?_; go_wp2_with fail
     repeat (first | rw [Exit.noGoto_ret] | rw [inBlock_ret] | rw [then_ret])
     go_ret
     exact ⟨rfl, (Below.refl _ _).drew.drew⟩
   ·have hw8 : ∃ i : Nat, 2 <= i /\ wrap64 ((v.size : Int) - 1) = (i : Int) := by
     rcases (by omega : v.size = 3 ∨ v.size = 4) with h | h
     ·exact ⟨2, by omega, by rw [h]; decide +kernel⟩
     ·exact ⟨3, by omega, by rw [h]; decide +kernel⟩
    obtain ⟨i8, hi8, hw8⟩ := hw8; clear q1 q2 q3; go_wp2_with fail
    rw [hw8]; go_loopg [9] (0 : Nat) (fun gk i wx => gk = 0 /\ i = .int .i64 (i8 : Int) /\ wx = w')
    case atStart => exact ⟨rfl, rfl, rfl⟩
    case round =>
     obtain ⟨rfl, rfl, rfl⟩ := hrel; clear hw8; go_wp2_with fail
     repeat (first | rw [Exit.noGoto_ret] | rw [inBlock_ret] | rw [then_ret])
     go_ret
     exact ⟨rfl, Below.refl _ _⟩
theorem shouldUse_c (n : Int) (w : World) : Calls Tryz.prog 112 #[.int .i64 n] w fun e w' => e = .returned (.bool (decide (8 < n))) /\ w' = w := by
 go_enter Tryz.func112, Tryz.ntmps112
 go_wp2_with fail
 go_ret
 exact ⟨rfl, rfl⟩
def NoQ (s : ByteArray) (i : Nat) : Prop := Lib.NoAny s.data.toList [34, 10] i
set_option maxRecDepth 10000 in
set_option maxHeartbeats 4000000 in
theorem IndexAny_short (s : ByteArray) (ch : ByteArray) (hch : ch = ⟨#[34, 10]⟩) (w : World) (h8 : s.size <= 8) : Calls Tryz.prog 81 #[.string s, .string ch] w fun e w' => e = .returned (.int .i64 (Lib.indexAny s.data.toList [34, 10])) /\ Below w.heap.size w w' := by
 have hemp : ch.toList.isEmpty = false := by rw [hch, show (⟨#[34, 10]⟩ : ByteArray) = bs [34, 10] from rfl, bs_toList]; rfl
 have hsz : ch.size = 2 := by rw [hch]; rfl
 have hd : ch.data.toList = [34, 10] := by rw [hch]
 have h8z : decide ((8 : Int) < (s.size : Int)) = false := decide_eq_false (by omega); have HC := Lib.hid hch; have Hd := Lib.hid hd; have H8 := Lib.hid h8z; clear hch hd h8z; go_enter Tryz.func81, Tryz.ntmps81
 go_wp2_with fail
 go_at_call 112
 refine (shouldUse_c _ w).mono ?_; rintro e w1 ⟨rfl, hw⟩; subst hw; rw [H8.out]; go_wp2_with fail
 obtain ⟨k, hk⟩ : ∃ k, k = w1.heap.size := ⟨_, rfl⟩; have HI : Hid ((w1.iter s 0).heap[k]? = some (.stringIter s 0) /\ Below w1.heap.size w1 (w1.iter s 0) /\ w1.heap.size <= k) := by
  rw [hk]; exact ⟨World.iter_heap _ _ _, (Below.refl _ _).alloc (Nat.le_refl _) _, Nat.le_refl _⟩
 obtain ⟨w2, hw2⟩ : ∃ w2, w2 = w1.iter s 0 := ⟨_, rfl⟩; rw [<- hw2] at HI ⊢; rw [<- hk]; clear hk hw2; go_loopg [9, 10] s.size (fun g _ _ wx => ∃ i : Nat, i + g = s.size /\ Hid (wx.heap[k]? = some (.stringIter s i) /\ Below w1.heap.size w1 wx /\ w1.heap.size <= k) /\ Hid (NoQ s i))
 case atStart => exact ⟨0, by omega, HI, Lib.NoAny.zero _ _⟩
 case round =>
  clear HI; obtain ⟨i, hig, hI, hno⟩ := hrel; cases gk with
  | zero =>
   obtain rfl : i = s.size := by omega
   have hnx := fun ty => next_over wr k s s.size ty hI.out.1 (by omega); have He : Hid (Lib.indexAny s.data.toList [34, 10] = -1) := Lib.indexAny_none (by rw [<- Lib.size_eq]; exact hno.out); go_wp2_with fail
   go_ret
   exact ⟨by rw [He.out]; rfl, hI.out.2.1⟩
  | succ g =>
   have hi : i < s.size := by omega
   obtain ⟨x, hx⟩ : ∃ x : UInt8, s[i]'hi = x := ⟨_, rfl⟩; have hxl : s.data.toList[i]? = some x := by rw [<- hx]; exact Lib.data_getElem? s i hi
   have hnx := fun ty => next_at wr k s i ty hI.out.1 hi; by_cases hx128 : x.toNat < 128
   ·rw [decode_ascii s i hi (by rw [hx]; exact hx128), hx] at hnx; have HI2 : Hid ((World.iterTo wr k (.stringIter s (i + 1))).heap[k]? = some (.stringIter s (i + 1)) /\ Below w1.heap.size w1 (World.iterTo wr k (.stringIter s (i + 1))) /\ w1.heap.size <= k) := ⟨iterTo_heap hI.out.1, Below.iterTo hI.out.2.1 hI.out.2.2 _, hI.out.2.2⟩; obtain ⟨w3, hw3⟩ : ∃ w3, w3 = World.iterTo wr k (.stringIter s (i + 1)) := ⟨_, rfl⟩; rw [<- hw3] at HI2 hnx; have Hx : Hid (s.data.toList[i]? = some x) := hxl; have hcon := Lib.contains_iff_indexByte [34, 10] x; have hback : ((x.toNat : Int)).toNat.toUInt8 = x := by simp
    have hdec : ((x.toNat, 1) : Nat × Nat).1 = x.toNat := rfl; clear hxl hx hw3; cases hin : ([34, 10] : List UInt8).contains x
    ·rw [hin] at hcon; have hlt : ¬ ((0 : Int) <= Lib.indexByte [34, 10] x) := of_decide_eq_false hcon.symm; have HN : Hid (NoQ s (i + 1)) := hno.out.succ Hx.out hin; clear hcon hno hin; go_wp2_with fail
     go_at_call 111
     refine (Tryz.strings_IndexRune_ascii ch (x.toNat : Int) w3 (by omega) (by omega)).mono ?_; rintro e w4 ⟨rfl, hw⟩; obtain rfl : w4 = w3 := hw; rw [hback, Hd.out]; go_wp2_with fail
     go_roundg g
     case measure => omega
     case rel => exact ⟨i + 1, by omega, HI2, HN⟩
    ·rw [hin] at hcon; have hlt : (0 : Int) <= Lib.indexByte [34, 10] x := of_decide_eq_true hcon.symm; have He : Hid (Lib.indexAny s.data.toList [34, 10] = i) := Lib.indexAny_hit hno.out Hx.out hin; clear hcon hno hin; go_wp2_with fail
     go_at_call 111
     refine (Tryz.strings_IndexRune_ascii ch (x.toNat : Int) w3 (by omega) (by omega)).mono ?_; rintro e w4 ⟨rfl, hw⟩; obtain rfl : w4 = w3 := hw; rw [hback, Hd.out]; go_wp2_with fail
     go_ret
     exact ⟨by rw [He.out]; rfl, HI2.out.2.1⟩
   ·obtain ⟨d1, d2⟩ := decode_high s i hi (by rw [hx]; omega); have d3 := decode_le s i; obtain ⟨d4, d5⟩ := decode_bytes s i hi (by rw [hx]; omega); obtain ⟨r, hr⟩ : ∃ r, r = (Utf8.decode s i).1 := ⟨_, rfl⟩; obtain ⟨m, hm⟩ : ∃ m, m = (Utf8.decode s i).2 := ⟨_, rfl⟩; rw [<- hr] at d1 d3 hnx; rw [<- hm] at d2 d4 d5 hnx; have HI2 : Hid ((World.iterTo wr k (.stringIter s (i + m))).heap[k]? = some (.stringIter s (i + m)) /\ Below w1.heap.size w1 (World.iterTo wr k (.stringIter s (i + m))) /\ w1.heap.size <= k) := ⟨iterTo_heap hI.out.1, Below.iterTo hI.out.2.1 hI.out.2.2 _, hI.out.2.2⟩; have HN : Hid (NoQ s (i + m)) := Lib.hid fun j b hj hb => by
     by_cases hji : j < i
     ·exact hno.out j b hji hb
     ·have hjs : j < s.size := by omega
      have h5 := d5 j (by omega) hj hjs; rw [Lib.data_getElem? s j hjs] at hb; obtain rfl := Option.some.inj hb; have n1 : s[j] ≠ 34 := fun h => by rw [h] at h5; revert h5; decide
      have n2 : s[j] ≠ 10 := fun h => by rw [h] at h5; revert h5; decide
      simp [n1, n2]
    obtain ⟨w3, hw3⟩ : ∃ w3, w3 = World.iterTo wr k (.stringIter s (i + m)) := ⟨_, rfl⟩; rw [<- hw3] at HI2 hnx; clear hxl hx hw3 hx128 d5 hno hr hm; go_wp2_with fail
    go_at_call 111
    refine (IndexRune_high ch HC.out (r : Int) w3 (by omega) (by omega)).mono ?_; rintro e w4 ⟨rfl, hb⟩; have HI4 : Hid (w4.heap[k]? = some (.stringIter s (i + m)) /\ Below w1.heap.size w1 w4 /\ w1.heap.size <= k) := ⟨(hb.block k (lt_of_block HI2.out.1)).trans HI2.out.1, HI2.out.2.1.trans (hb.mono HI2.out.2.1.size), HI2.out.2.2⟩; clear hb HI2; go_wp2_with fail
    go_roundg (s.size - (i + m))
    case measure => omega
    case rel => exact ⟨i + m, by omega, HI4, HN⟩
theorem idxAny : IdxAny := by
 intro l w hl
 suffices h : Calls Tryz.prog 81 #[.string (bs l), .string ⟨#[34, 10]⟩] w fun e w' => e = .returned (.int .i64 (Lib.indexAny l [34, 10])) /\ Below w.heap.size w w' from
  h.mono fun e w' ⟨h1, h2⟩ => ⟨by rw [h1]; congr 2; exact (idxQ_any l).symm, h2⟩
 by_cases h8 : 8 < l.length
 ·refine (Tryz.strings_IndexAny_long (zero_of_info (by kernel_rfl : (Tryz.prog.info? 141).map (fun i => (i.zero, i.size)) = some (some (.agg (Array.replicate 256 (.bool false))), 256))).1 (bs l) ⟨#[34, 10]⟩ w (by decide) (by rw [bs_size]; exact h8) (by rw [bs_size]; omega) (by decide) ?_).mono ?_
  ·intro j b hb; rcases j with _ | _ | j
   ·have : b = 34 := by simpa using hb.symm
    subst this; decide
   ·have : b = 10 := by simpa using hb.symm
    subst this; decide
   ·simp at hb
  ·rintro e w' ⟨rfl, rfl⟩; exact ⟨rfl, ((Below.refl _ _).alloc (Nat.le_refl _) _).alloc (by simp) _⟩
 ·exact IndexAny_short (bs l) _ rfl w (by rw [bs_size]; omega)
end Go.Proofs.YtoeknmkephnekaaGreatDoor
namespace Go.Cz.Lx
def identB (l : List UInt8) : Bool := (lexAll l).2.1 == 0 && (match (lexAll l).1 with | [t] => t.kind == 1 && t.text == l | _ => false)
def wordB (c : UInt8) : Bool := [3, 4, 5].contains (cls c)
def nameB (l : List UInt8) : Bool := l.all wordB && (decide (0 < l.length) && (decide (l.length <= 24) && atL l 0 == 3))
theorem whileN_all : ∀ l : List UInt8, l.all wordB = decide (whileN [3, 4, 5] l = l.length)
 | [] => rfl
 | c :: r => by
  have ih := whileN_all r; have hle := whileN_le [3, 4, 5] r; rw [Bool.eq_iff_iff, decide_eq_true_eq, List.all_cons, ih, Bool.and_eq_true, decide_eq_true_eq]; have hw : whileN [3, 4, 5] (c :: r) = if [3, 4, 5].contains (cls c) then whileN [3, 4, 5] r + 1 else 0 := rfl
  rw [hw, List.length_cons]; unfold wordB; by_cases h : [3, 4, 5].contains (cls c) = true
  ·rw [if_pos h]
   constructor
   ·rintro ⟨-, h2⟩; omega
   ·intro h2; exact ⟨h, by omega⟩
  ·rw [if_neg h]
   constructor
   ·rintro ⟨h1, -⟩; exact absurd h1 h
   ·intro h2; omega
theorem lexF_pre : ∀ (f : Nat) (l : List UInt8) (i : Nat) (acc ts : List Tok), lexF l f i acc = .ok ts -> ∃ s, ts = acc ++ s
 | 0, l, i, acc, ts, h => by simp only [lexF] at h; injection h with h; exact ⟨[], by simp [h]⟩
 | f + 1, l, i, acc, ts, h => by
  simp only [lexF] at h
  split at h
  ·rcases hn : nextL l i with e | ⟨t, k⟩
   ·rw [hn] at h; cases h
   ·rw [hn] at h; simp only at h
    split at h
    ·cases h
    ·obtain ⟨s, hs⟩ := lexF_pre f l _ _ _ h; exact ⟨t :: s, by rw [hs]; simp⟩
  ·injection h with h; exact ⟨[], by simp [h]⟩
theorem next_name {l : List UInt8} {i k : Nat} {t : Tok} (h : nextL l i = .ok (t, k)) (hk : t.kind = 1) : atL l i = 3 /\ whileN [3, 4, 5] (l.drop i) <= 24 /\ t.text = (l.drop i).take (whileN [3, 4, 5] (l.drop i)) := by
 unfold nextL at h
 split at h
 ·rename_i h0
  split at h
  ·cases h
  ·rename_i h1
   injection h with h; injection h with h2 h3; subst h2; exact ⟨h0, by omega, rfl⟩
 split at h
 ·split at h
  ·cases h
  ·injection h with h; injection h with h2 h3; subst h2; cases hk
 split at h
 ·split at h
  ·cases h
  ·split at h
   ·cases h
   split at h
   ·cases h
   ·injection h with h; injection h with h2 h3; subst h2; cases hk
 split at h
 ·injection h with h; injection h with h2 h3; subst h2; cases hk
 split at h
 ·injection h with h; injection h with h2 h3; subst h2; cases hk
 ·cases h
theorem identB_name (l : List UInt8) : identB l = nameB l := by
 rw [Bool.eq_iff_iff]
 constructor
 ·intro h; unfold identB lexAll at h; by_cases hl : 20000 < l.length
  ·rw [if_pos hl] at h; simp at h
  rw [if_neg hl] at h; rcases hF : lexF l (l.length + 1) (gapE l 0) [] with ⟨e, i⟩ | ts
  ·rw [hF] at h; rw [Bool.and_eq_true] at h; simp at h
  ·rw [hF] at h; simp only [beq_self_eq_true, Bool.true_and] at h; rcases ts with _ | ⟨t, _ | ⟨t2, r⟩⟩
   ·simp at h
   ·simp only [Bool.and_eq_true, beq_iff_eq] at h; obtain ⟨hk, ht⟩ := h; simp only [lexF] at hF
    split at hF
    ·rename_i hi; rcases hn : nextL l (gapE l 0) with e | ⟨t0, k⟩
     ·rw [hn] at hF; cases hF
     ·rw [hn] at hF; simp only [List.length_nil] at hF; rw [if_neg (by decide)] at hF; obtain ⟨s, hs⟩ := lexF_pre _ _ _ _ _ hF; simp at hs
      obtain ⟨rfl, -⟩ := hs; obtain ⟨h1, h2, h3⟩ := next_name hn hk; have hlen := congrArg List.length (ht.symm.trans h3); rw [List.length_take, List.length_drop] at hlen; have h0 : gapE l 0 = 0 := by omega
      rw [h0] at h1 h2 h3 hlen; rw [List.drop_zero] at h2 hlen; have hw := whileN_le [3, 4, 5] l; have hwl : whileN [3, 4, 5] l = l.length := by omega
      unfold nameB; rw [whileN_all, decide_eq_true hwl, decide_eq_true (by omega : 0 < l.length), decide_eq_true (by omega : l.length <= 24), h1]
      rfl
    ·cases hF
   ·simp at h
 ·intro h; unfold nameB at h; simp only [Bool.and_eq_true, decide_eq_true_eq, beq_iff_eq] at h; obtain ⟨h1, h2, h3, h4⟩ := h; rw [whileN_all, decide_eq_true_eq] at h1; have hg : gapE l 0 = 0 := by
   unfold gapE; rw [List.drop_zero]; rcases l with _ | ⟨c, r⟩
   ·rfl
   ·have hc : cls c = 3 := by simpa [atL] using h4
    simp [gapL, hc]
  have hn : nextL l 0 = .ok (⟨1, 0, 0, l⟩, l.length) := by
   unfold nextL; rw [if_pos h4, List.drop_zero, h1, if_neg (by omega), List.take_length]
  have hge : gapE l (0 + l.length) = l.length := by
   unfold gapE; rw [List.drop_of_length_le (by omega)]; simp [gapL]
  have hF : lexF l (l.length + 1) (gapE l 0) [] = .ok [⟨1, 0, 0, l⟩] := by
   rw [hg]; simp only [lexF]; rw [if_pos h2, hn]; simp only [List.length_nil]; rw [if_neg (by decide), hge]; rcases hll : l.length with _ | f
   ·omega
   ·simp only [lexF]; rw [if_neg (by omega)]
    rfl
  unfold identB lexAll; rw [if_neg (by omega), hF]; simp
end Go.Cz.Lx
namespace Go.Proofs.YtoeknmkephnekaaGreatDoor
open Go.RowKit Go.Cz Go.Cz.Lx
attribute [local go_sem] bs_size bs_extract bs_append bs_toList
attribute [local irreducible] cList
theorem rletter_c (c : UInt8) (w : World) : Calls Tryz.prog 121 #[.int .u8 (c.toNat : Int)] w fun e w' => e = .returned (.bool (cls c == 3)) /\ w' = w := by
 have hb : (cls c == 3) = decide ((97 <= (c.toNat : Int) /\ (c.toNat : Int) <= 122) ∨ (65 <= (c.toNat : Int) /\ (c.toNat : Int) <= 90)) := all_bytes (p := fun c => (cls c == 3) = decide ((97 <= (c.toNat : Int) /\ (c.toNat : Int) <= 122) ∨ (65 <= (c.toNat : Int) /\ (c.toNat : Int) <= 90))) (by decide +kernel) c; obtain ⟨v, hv⟩ : ∃ v : Int, v = c.toNat := ⟨_, rfl⟩; obtain ⟨q, hq⟩ : ∃ q, q = (cls c == 3) := ⟨_, rfl⟩; rw [<- hv] at hb ⊢; rw [<- hq] at hb ⊢; clear hv hq; go_enter Tryz.func121, Tryz.ntmps121
 by_cases h1 : 97 <= v
 ·by_cases h2 : v <= 122
  ·obtain rfl : q = true := hb.trans (decide_eq_true (by omega)); clear hb; go_wp2_with fail
   go_ret
   exact ⟨rfl, rfl⟩
  ·obtain rfl : q = false := hb.trans (decide_eq_false (by omega)); have h3 : 65 <= v := by omega
   have h4 : ¬ v <= 90 := by omega
   clear hb; go_wp2_with fail
   go_ret
   exact ⟨rfl, rfl⟩
 ·by_cases h3 : 65 <= v
  ·by_cases h4 : v <= 90
   ·obtain rfl : q = true := hb.trans (decide_eq_true (by omega)); clear hb; go_wp2_with fail
    go_ret
    exact ⟨rfl, rfl⟩
   ·obtain rfl : q = false := hb.trans (decide_eq_false (by omega)); clear hb; go_wp2_with fail
    go_ret
    exact ⟨rfl, rfl⟩
  ·obtain rfl : q = false := hb.trans (decide_eq_false (by omega)); clear hb; go_wp2_with fail
   go_ret
   exact ⟨rfl, rfl⟩
theorem rdigit_c (c : UInt8) (w : World) : Calls Tryz.prog 123 #[.int .u8 (c.toNat : Int)] w fun e w' => e = .returned (.bool (cls c == 4)) /\ w' = w := by
 have hb : (cls c == 4) = decide (48 <= (c.toNat : Int) /\ (c.toNat : Int) <= 57) := all_bytes (p := fun c => (cls c == 4) = decide (48 <= (c.toNat : Int) /\ (c.toNat : Int) <= 57)) (by decide +kernel) c; obtain ⟨v, hv⟩ : ∃ v : Int, v = c.toNat := ⟨_, rfl⟩; obtain ⟨q, hq⟩ : ∃ q, q = (cls c == 4) := ⟨_, rfl⟩; rw [<- hv] at hb ⊢; rw [<- hq] at hb ⊢; clear hv hq; go_enter Tryz.func123, Tryz.ntmps123
 by_cases h1 : 48 <= v
 ·by_cases h2 : v <= 57
  ·obtain rfl : q = true := hb.trans (decide_eq_true (by omega)); clear hb; go_wp2_with fail
   go_ret
   exact ⟨rfl, rfl⟩
  ·obtain rfl : q = false := hb.trans (decide_eq_false (by omega)); clear hb; go_wp2_with fail
   go_ret
   exact ⟨rfl, rfl⟩
 ·obtain rfl : q = false := hb.trans (decide_eq_false (by omega)); clear hb; go_wp2_with fail
  go_ret
  exact ⟨rfl, rfl⟩
theorem rword_c (c : UInt8) (w : World) : Calls Tryz.prog 120 #[.int .u8 (c.toNat : Int)] w fun e w' => e = .returned (.bool (wordB c)) /\ w' = w := by
 have hb : wordB c = ((cls c == 3) || ((cls c == 4) || ((c.toNat : Int) == 95))) := all_bytes (p := fun c => wordB c = ((cls c == 3) || ((cls c == 4) || ((c.toNat : Int) == 95)))) (by decide +kernel) c; obtain ⟨q, hq⟩ : ∃ q, q = wordB c := ⟨_, rfl⟩; obtain ⟨p, hp⟩ : ∃ p, p = (cls c == 3) := ⟨_, rfl⟩; obtain ⟨p2, hp2⟩ : ∃ p, p = (cls c == 4) := ⟨_, rfl⟩; obtain ⟨v, hv⟩ : ∃ v : Int, v = c.toNat := ⟨_, rfl⟩; have HL := Lib.hid (rletter_c c w); have HD := Lib.hid (rdigit_c c w); rw [<- hp] at hb HL; rw [<- hp2] at hb HD; rw [<- hv] at hb HL HD ⊢; rw [<- hq] at hb ⊢; clear hq hp hp2 hv; have HB := Lib.hid hb; clear hb; go_enter Tryz.func120, Tryz.ntmps120
 go_wp2_with fail
 go_at_call 121
 refine HL.out.mono ?_; rintro e w1 ⟨rfl, hw⟩; subst hw; cases p
 ·go_wp2_with fail
  go_at_call 123
  refine HD.out.mono ?_; rintro e w2 ⟨rfl, hw⟩; subst hw; cases p2
  ·go_wp2_with fail
   go_ret
   exact ⟨by rw [HB.out]; rfl, rfl⟩
  ·go_wp2_with fail
   go_ret
   exact ⟨by rw [HB.out]; rfl, rfl⟩
 ·go_wp2_with fail
  go_ret
  exact ⟨by rw [HB.out]; rfl, rfl⟩
set_option maxHeartbeats 2000000 in
theorem rName_c (l : List UInt8) (w : World) (hl : l.length <= 140737488355328) : Calls Tryz.prog 90 #[.string (bs l)] w fun e w' => e = .returned (.bool (nameB l)) /\ w' = w := by
 obtain ⟨u, hu⟩ : ∃ u, u = bs l := ⟨_, rfl⟩; have hus : u.size = l.length := by rw [hu, bs_size]
 have hget : ∀ (i : Nat) (h : i < u.size) (h2 : i < l.length), u[i]'h = l[i]'h2 := by
  subst hu; intro i h h2; rfl
 have HU := Lib.hid hget; rw [<- hu]; clear hget hu; obtain ⟨N, hN⟩ : ∃ N, N = l.length := ⟨_, rfl⟩; rw [<- hN] at hus hl; have HN := Lib.hid hN; clear hN; have hbad : Hid (∀ (i : Nat) (c : UInt8), l[i]? = some c -> wordB c = false -> nameB l = false) := fun i c h hb => by
  unfold nameB; have : l.all wordB = false := by
   rw [List.all_eq_false]; exact ⟨c, List.mem_of_getElem? h, by rw [hb]; simp⟩
  rw [this]
  rfl
 go_enter Tryz.func90, Tryz.ntmps90
 go_wp2_with fail
 go_loopg [3] N (fun gk i wr => ∃ k : Nat, gk = N - k /\ k <= N /\ i = .int .i64 (k : Int) /\ wr = w /\ Hid (∀ c ∈ l.take k, wordB c = true))
 case atStart => exact ⟨0, rfl, Nat.zero_le _, rfl, rfl, Lib.hid (by simp)⟩
 case round =>
  rename_i J1 K1 hJ1 hK1; obtain ⟨k, rfl, hk, rfl, rfl, hv⟩ := hrel; by_cases hlt : k < N
  ·have kl : k < u.size := by omega
   have hkl : k < l.length := by have := HN.out; omega
   obtain ⟨c, hc⟩ : ∃ c, c = l[k] := ⟨_, rfl⟩; have hcu : u[k] = c := by rw [HU.out k kl hkl, hc]
   have Hc : Hid (l[k]? = some c) := by show _ = _; rw [List.getElem?_eq_getElem hkl, hc]
   clear hc hkl; go_wp2_with fail
   go_at_call 120
   refine (rword_c c wr).mono ?_; rintro e w1 ⟨rfl, hw⟩; subst hw; cases hb : wordB c
   ·have He : Hid (nameB l = false) := hbad.out k c Hc.out hb; clear hb; go_wp2_with fail
    go_ret
    exact ⟨by rw [He.out]; rfl, rfl⟩
   ·have HV : Hid (∀ c ∈ l.take (k + 1), wordB c = true) := Lib.hid fun d hd => by
     rw [List.take_add_one, Hc.out] at hd; rcases List.mem_append.1 hd with h | h
     ·exact hv.out d h
     ·have : d = c := by simpa using h
      rw [this]; exact hb
    clear hb hv; go_wp2_with fail
    go_roundg (N - (k + 1))
    case measure => omega
    case rel => exact ⟨k + 1, rfl, by omega, by go_num, rfl, HV⟩
  ·have HA : Hid (nameB l = (decide (0 < N) && (decide (N <= 24) && atL l 0 == 3))) := by
    show _ = _; have : l.all wordB = true := List.all_eq_true.2 fun c hc => hv.out c (by rw [List.take_of_length_le (by have := HN.out; omega)]; exact hc); unfold nameB; rw [this, <- HN.out]
    rfl
   clear hJ1 hK1 hv hbad; by_cases h0 : 0 < N
   ·by_cases h24 : N <= 24
    ·have kl : 0 < u.size := by omega
     have hkl : 0 < l.length := by have := HN.out; omega
     obtain ⟨c, hc⟩ : ∃ c, c = l[0] := ⟨_, rfl⟩; have hcu : u[0] = c := by rw [HU.out 0 kl hkl, hc]
     have HB : Hid (nameB l = (cls c == 3)) := by
      show _ = _; rw [HA.out, decide_eq_true h0, decide_eq_true h24, atL_some hkl, hc]
      rfl
     clear hc hkl HA; go_wp2_with fail
     go_at_call 121
     refine (rletter_c c wr).mono ?_; rintro e w1 ⟨rfl, hw⟩; subst hw; go_wp2_with fail
     go_ret
     exact ⟨by rw [HB.out]; rfl, rfl⟩
    ·have HB : Hid (nameB l = false) := by
      show _ = _; rw [HA.out, decide_eq_false h24]; simp
     clear HA; go_wp2_with fail
     go_ret
     exact ⟨by rw [HB.out]; rfl, rfl⟩
   ·have HB : Hid (nameB l = false) := by
     show _ = _; rw [HA.out, decide_eq_false h0]; simp
    clear HA; go_wp2_with fail
    go_ret
    exact ⟨by rw [HB.out]; rfl, rfl⟩
end Go.Proofs.YtoeknmkephnekaaGreatDoor
namespace Go.Cz.Fo
open Go.Cz.Lx
abbrev Bytes := List UInt8
inductive Fm where
 | mk (op : Int) (name : Bytes) (cmp num : Int) (kids : List Fm)
namespace Fm
def op : Fm -> Int | .mk a _ _ _ _ => a
def name : Fm -> Bytes | .mk _ a _ _ _ => a
def cmp : Fm -> Int | .mk _ _ a _ _ => a
def num : Fm -> Int | .mk _ _ _ a _ => a
def kids : Fm -> List Fm | .mk _ _ _ _ a => a
mutual
theorem ind {P : Fm -> Prop} (h : ∀ op name cmp num (ks : List Fm), (∀ k ∈ ks, P k) -> P (.mk op name cmp num ks)) : ∀ f, P f
 | .mk op name cmp num ks => h op name cmp num ks (inds h ks)
theorem inds {P : Fm -> Prop} (h : ∀ op name cmp num (ks : List Fm), (∀ k ∈ ks, P k) -> P (.mk op name cmp num ks)) : ∀ ks : List Fm, ∀ k ∈ ks, P k
 | [] => fun k hk => by cases hk
 | a :: r => fun k hk => (List.mem_cons.1 hk).elim (fun e => e ▸ ind h a) (inds h r k)
end
theorem induct {P : Fm -> Prop} (h : ∀ f : Fm, (∀ k ∈ f.kids, P k) -> P f) : ∀ f, P f := ind fun a b c d ks => h (.mk a b c d ks)
end Fm
mutual
def size : Fm -> Nat | .mk _ _ _ _ ks => sizes ks + 1
def sizes : List Fm -> Nat | [] => 0 | k :: r => size k + sizes r
end
mutual
def depth : Fm -> Nat | .mk _ _ _ _ ks => depths ks + 1
def depths : List Fm -> Nat | [] => 0 | k :: r => max (depth k) (depths r)
end
theorem size_kids : ∀ f : Fm, size f = sizes f.kids + 1 | .mk _ _ _ _ ks => by rw [size]; rfl
theorem depth_kids : ∀ f : Fm, depth f = depths f.kids + 1 | .mk _ _ _ _ ks => by rw [depth]; rfl
theorem size_pos : ∀ f, 1 <= size f | .mk _ _ _ _ ks => by rw [size]; omega
theorem size_mem {k : Fm} : ∀ {ks : List Fm}, k ∈ ks -> size k <= sizes ks
 | a :: r, h => by
  rw [sizes]; rcases List.mem_cons.1 h with rfl | h
  ·omega
  ·have := size_mem h; omega
mutual
theorem depth_size : ∀ f, depth f <= size f | .mk _ _ _ _ ks => by rw [depth, size]; have := depths_sizes ks; omega
theorem depths_sizes : ∀ ks, depths ks <= sizes ks | [] => Nat.le_refl _ | k :: r => by rw [depths, sizes]; have := depth_size k; have := depths_sizes r; omega
end
theorem length_sizes : ∀ ks : List Fm, ks.length <= sizes ks | [] => Nat.le_refl _ | k :: r => by rw [sizes, List.length_cons]; have := size_pos k; have := length_sizes r; omega
mutual
def short (n : Nat) : Fm -> Bool | .mk _ s _ _ ks => shorts n ks && decide (s.length <= n)
def shorts (n : Nat) : List Fm -> Bool | [] => true | k :: r => short n k && shorts n r
end
theorem short_mem {n : Nat} {k : Fm} : ∀ {ks : List Fm}, shorts n ks = true -> k ∈ ks -> short n k = true
 | a :: r, h, hk => by
  rw [shorts, Bool.and_eq_true] at h; rcases List.mem_cons.1 hk with rfl | hk
  ·exact h.1
  ·exact short_mem h.2 hk
def wOr : Bytes := [111, 114]
def wAnd : Bytes := [97, 110, 100]
def wNot : Bytes := [110, 111, 116]
def wTrue : Bytes := [116, 114, 117, 101]
def wFalse : Bytes := [102, 97, 108, 115, 101]
def keyB (s : Bytes) : Bool := s == wOr || (s == wAnd || (s == wNot || (s == wTrue || s == wFalse)))
def formedB (f : Fm) : Bool :=
 if f.op = 3 then decide (f.kids.length = 0) && (decide (1 <= f.cmp) && (decide (f.cmp <= 6) && (nameB f.name && !keyB f.name)))
 else if f.name ≠ [] ∨ f.cmp ≠ 0 ∨ f.num ≠ 0 then false
 else if f.op = 1 ∨ f.op = 2 then decide (f.kids.length = 0)
 else if f.op = 4 then decide (f.kids.length = 1)
 else decide ((f.op = 5 ∨ f.op = 6) /\ 2 <= f.kids.length)
def largeB (f : Fm) : Bool := decide (200 < size f) || decide (20 < depth f)
mutual
def firstF (look : Fm -> Nat) : Fm -> Nat | .mk a b c d ks => if look (.mk a b c d ks) ≠ 0 then look (.mk a b c d ks) else firsts look ks
def firsts (look : Fm -> Nat) : List Fm -> Nat | [] => 0 | k :: r => if firstF look k ≠ 0 then firstF look k else firsts look r
end
structure Fact where
 name : Bytes
 kind : Int
 lo : Int
 hi : Int
def idxD (s : Bytes) : List Fact -> Int
 | [] => -1
 | f :: r => if f.name = s then 0 else if idxD s r < 0 then -1 else idxD s r + 1
def factB (f : Fact) : Bool := decide (f.kind = 1 /\ f.lo = 0 /\ f.hi = 1) || decide (f.kind = 2 /\ 0 <= f.lo /\ f.lo <= f.hi /\ f.hi <= 1000000)
def validL : List Bytes -> List Fact -> Bool
 | _, [] => true
 | seen, f :: r => factB f && (nameB f.name && (!seen.contains f.name && validL (f.name :: seen) r))
def validD (d : List Fact) : Bool := validL [] d && decide (d.length <= 60)
def within : List Fact -> List Int -> Bool
 | f :: r, x :: c => decide (f.lo <= x) && (decide (x <= f.hi) && within r c)
 | _, _ => true
def fitsB (d : List Fact) (c : List Int) : Bool := validD d && (decide (c.length = d.length) && within d c)
def nodeE (d : List Fact) (f : Fm) : Nat :=
 if formedB f = false then 1 else if f.op ≠ 3 then 0 else if f.num < 0 ∨ 1000000 < f.num then 10 else if idxD f.name d < 0 then 7 else 0
def checkF (d : List Fact) (f : Fm) : Nat := if largeB f = true then 2 else firstF (nodeE d) f
def cmpB (x m n : Int) : Bool :=
 if m = 1 then x == n else if m = 2 then x != n else if m = 3 then decide (x < n) else if m = 4 then decide (x <= n) else if m = 5 then decide (n < x) else decide (n <= x)
mutual
def valueF (d : List Fact) (c : List Int) : Fm -> Bool
 | .mk op name m n ks =>
  if op = 3 then cmpB (c.getD (idxD name d).toNat 0) m n
  else if op = 4 then !valueAll d c ks
  else if op = 5 then valueAll d c ks
  else if op = 6 then valueAny d c ks
  else decide (op = 1)
def valueAll (d : List Fact) (c : List Int) : List Fm -> Bool | [] => true | k :: r => valueF d c k && valueAll d c r
def valueAny (d : List Fact) (c : List Int) : List Fm -> Bool | [] => false | k :: r => valueF d c k || valueAny d c r
end
mutual
def sameF : Fm -> Fm -> Bool | .mk a b c d ks, .mk a' b' c' d' ks' => decide (a = a') && (decide (b = b') && (decide (c = c') && (decide (d = d') && sames ks ks')))
def sames : List Fm -> List Fm -> Bool | [], [] => true | k :: r, k' :: r' => sameF k k' && sames r r' | _, _ => false
end
mutual
theorem sameF_iff : ∀ {f g : Fm}, sameF f g = true ↔ f = g
 | .mk a b c d ks, .mk a' b' c' d' ks' => by
  rw [sameF, Bool.and_eq_true, Bool.and_eq_true, Bool.and_eq_true, Bool.and_eq_true, decide_eq_true_eq, decide_eq_true_eq, decide_eq_true_eq, decide_eq_true_eq, sames_iff, Fm.mk.injEq]
theorem sames_iff : ∀ {l m : List Fm}, sames l m = true ↔ l = m
 | [], [] => by simp [sames]
 | k :: r, k' :: r' => by rw [sames, Bool.and_eq_true, sameF_iff, sames_iff, List.cons.injEq]
 | [], _ :: _ => by simp [sames]
 | _ :: _, [] => by simp [sames]
end
def joinB (sep : Bytes) : List Bytes -> Bytes | [] => [] | [a] => a | a :: b :: r => a ++ (sep ++ joinB sep (b :: r))
def symB (m : Int) : Bytes := if m = 1 then [61] else if m = 2 then [33, 61] else if m = 3 then [60] else if m = 4 then [60, 61] else if m = 5 then [62] else if m = 6 then [62, 61] else []
def parB (op kop : Int) : Bool := decide (kop = 6) || (decide (kop = 5) && decide (op ≠ 6))
def parT (b : Bool) (s : Bytes) : Bytes := if b = true then [40] ++ (s ++ [41]) else s
mutual
def textF (dec : Int -> Bytes) : Fm -> Bytes
 | .mk op name m n ks =>
  if op = 1 then wTrue else if op = 2 then wFalse
  else if op = 3 then name ++ ([32] ++ (symB m ++ ([32] ++ dec n)))
  else if op = 4 then [110, 111, 116, 32] ++ joinB [] ((textKids dec op ks).take 1)
  else if op = 5 then joinB [32, 97, 110, 100, 32] (textKids dec op ks)
  else joinB [32, 111, 114, 32] (textKids dec op ks)
def textKids (dec : Int -> Bytes) (op : Int) : List Fm -> List Bytes | [] => [] | k :: r => parT (parB op k.op) (textF dec k) :: textKids dec op r
end
def badE (f : Fm) : Nat := if formedB f = false ∨ (f.op = 3 /\ (f.num < 0 ∨ 1000000 < f.num)) then 1 else 0
def textE (f : Fm) : Nat := if largeB f = true ∨ firstF badE f ≠ 0 then 1 else 0
def zeroF : Fm := .mk 0 [] 0 0 []
def symI (s : Bytes) : Nat := if s = [61] then 1 else if s = [33, 61] then 2 else if s = [60] then 3 else if s = [60, 61] then 4 else if s = [62] then 5 else if s = [62, 61] then 6 else 0
abbrev Res := Except (Nat × Int) (Fm × List Tok)
def moreF (word : Bytes) (part : List Tok -> Res) : Nat -> List Tok -> Except (Nat × Int) (List Fm × List Tok)
 | 0, ts => .ok ([], ts)
 | n + 1, ts => match ts with
  | [] => .ok ([], [])
  | t :: r => if t.kind = 1 /\ t.text = word then
    match part r with
    | .error e => .error e
    | .ok (k, r2) => match moreF word part n r2 with
     | .error e => .error e
     | .ok (ks, r3) => .ok (k :: ks, r3)
   else .ok ([], t :: r)
def partsF (op : Int) (word : Bytes) (part : List Tok -> Res) (ts : List Tok) : Res :=
 match part ts with
 | .error e => .error e
 | .ok (k, r) => match moreF word part (r.length + 1) r with
  | .error e => .error e
  | .ok (ks, r2) => .ok (if ks.isEmpty then k else .mk op [] 0 0 (k :: ks), r2)
def testF (fin : Int) (name : Bytes) : List Tok -> Res
 | [] => .error (6, fin)
 | c :: r => if c.kind ≠ 4 ∨ symI c.text = 0 then .error (5, c.pos) else
  match r with
  | [] => .error (6, fin)
  | m :: r2 => if m.kind ≠ 2 then .error (5, m.pos) else if 1000000 < m.num then .error (10, m.pos) else .ok (.mk 3 name (symI c.text) m.num [], r2)
def oneF (fin : Int) : Nat -> List Tok -> Res
 | 0, _ => .error (6, fin)
 | _ + 1, [] => .error (6, fin)
 | n + 1, t :: r =>
  if t.kind = 1 /\ t.text = wNot then
   match oneF fin n r with
   | .error e => .error e
   | .ok (f, r2) => .ok (.mk 4 [] 0 0 [f], r2)
  else if t.kind = 1 /\ t.text = wTrue then .ok (.mk 1 [] 0 0 [], r)
  else if t.kind = 1 /\ t.text = wFalse then .ok (.mk 2 [] 0 0 [], r)
  else if t.kind = 4 /\ t.text = [40] then
   match partsF 6 wOr (partsF 5 wAnd (oneF fin n)) r with
   | .error e => .error e
   | .ok (f, []) => .error (6, fin)
   | .ok (f, u :: r2) => if u.kind = 4 /\ u.text = [41] then .ok (f, r2) else .error (5, u.pos)
  else if t.kind ≠ 1 ∨ t.text = [] ∨ keyB t.text = true then .error (5, t.pos)
  else testF fin t.text r
def eitherF (fin : Int) (n : Nat) (ts : List Tok) : Res := partsF 6 wOr (partsF 5 wAnd (oneF fin n)) ts
def parseF (l : Bytes) : Fm × Nat × Int :=
 if (lexAll l).2.1 ≠ 0 then (zeroF, (lexAll l).2.1, (lexAll l).2.2)
 else match eitherF l.length ((lexAll l).1.length + 1) (lexAll l).1 with
  | .error e => (zeroF, e.1, e.2)
  | .ok (f, t :: r) => (zeroF, 5, t.pos)
  | .ok (f, []) => if largeB f = true then (zeroF, 2, -1) else (f, 0, 0)
end Go.Cz.Fo
namespace Go.Cz.Fo
open Go.Cz.Lx
theorem formedB_mk (op : Int) (name : Bytes) (m n : Int) (ks : List Fm) : formedB (.mk op name m n ks) = if op = 3 then decide (ks.length = 0) && (decide (1 <= m) && (decide (m <= 6) && (nameB name && !keyB name)))
  else if name ≠ [] ∨ m ≠ 0 ∨ n ≠ 0 then false else if op = 1 ∨ op = 2 then decide (ks.length = 0) else if op = 4 then decide (ks.length = 1) else decide ((op = 5 ∨ op = 6) /\ 2 <= ks.length) := rfl
theorem firsts_zero {look : Fm -> Nat} : ∀ {ks : List Fm}, firsts look ks = 0 ↔ ∀ k ∈ ks, firstF look k = 0
 | [] => by simp [firsts]
 | a :: r => by
  rw [firsts]; by_cases h : firstF look a = 0
  ·rw [if_neg (by simp [h]), firsts_zero]; simp [h]
  ·rw [if_pos h]; simp [h]
theorem firstF_eq {look : Fm -> Nat} : ∀ f, firstF look f = if look f ≠ 0 then look f else firsts look f.kids
 | .mk a b c d ks => by rw [firstF]; rfl
theorem firstF_zero {look : Fm -> Nat} (f : Fm) : firstF look f = 0 ↔ look f = 0 /\ ∀ k ∈ f.kids, firstF look k = 0 := by
 rw [firstF_eq]; by_cases h : look f = 0
 ·rw [if_neg (by simp [h]), firsts_zero]; simp [h]
 ·rw [if_pos h]; simp [h]
theorem largeB_false {f : Fm} : largeB f = false ↔ size f <= 200 /\ depth f <= 20 := by
 unfold largeB; rw [Bool.or_eq_false_iff, decide_eq_false_iff_not, decide_eq_false_iff_not]; omega
theorem checkF_zero {d : List Fact} {f : Fm} : checkF d f = 0 ↔ (size f <= 200 /\ depth f <= 20) /\ firstF (nodeE d) f = 0 := by
 unfold checkF; rw [<- largeB_false]; cases largeB f <;> simp
structure Good (d : List Fact) (c : List Int) (f : Fm) : Prop where
 small : size f <= 60
 deep : depth f <= 16
 fits : fitsB d c = true
 check : checkF d f = 0
section
variable {d : List Fact} {c : List Int} {f g : Fm}
theorem Good.first (h : Good d c f) : firstF (nodeE d) f = 0 := (checkF_zero.1 h.check).2
end
mutual
def namedF (s : Bytes) : Fm -> Bool | .mk op name _ _ ks => (decide (op = 3) && decide (name = s)) || nameds s ks
def nameds (s : Bytes) : List Fm -> Bool | [] => false | k :: r => namedF s k || nameds s r
end
section
variable {d : List Fact} {c : List Int} {f : Fm}
end
end Go.Cz.Fo
namespace Go.Cz.Ck
abbrev Shift := Int × Int
def instB (t : Int) : Bool := decide (0 <= t) && decide (t <= 144001439)
def shiftOk (i : Nat) (last : Int) (s : Shift) : Bool :=
 (decide (0 < i) || s.1 == 0) && (decide (last < s.1) && (instB s.1 && (decide (-840 <= s.2) && decide (s.2 <= 840))))
def vgo (i : Nat) (last : Int) : List Shift -> Bool
 | [] => true
 | s :: r => shiftOk i last s && vgo (i + 1) s.1 r
def validB (l : List Shift) : Bool := vgo 0 (-1) l && (decide (0 < l.length) && decide (l.length <= 20))
def spans : List Shift -> List (Shift × Int)
 | [] => []
 | [s] => [(s, 144001439)]
 | s :: s' :: r => (s, s'.1 - 1) :: spans (s' :: r)
def off (l : List Shift) (t : Int) : Int := match (spans l).find? (fun p => decide (t <= p.2)) with | some p => p.1.2 | none => 0
def hit (loc : Int) (p : Shift × Int) : Bool := decide (max p.1.1 (loc - p.1.2) <= p.2)
def instF (l : List Shift) (day minute : Int) : Int × Int :=
 if validB l && (decide (0 <= minute) && decide (minute < 1440)) then
  if 100001 < day then (0, 10) else
  match (spans l).find? (hit (max day (-2) * 1440 + minute)) with
  | some p => (max p.1.1 (max day (-2) * 1440 + minute - p.1.2), 0)
  | none => (0, 10)
 else (0, 1)
end Go.Cz.Ck
namespace Go.Cz.Ck
end Go.Cz.Ck
namespace Go.Cz.Ck
end Go.Cz.Ck
namespace Go.Cz.Ck
end Go.Cz.Ck
namespace Go.Cz.Ck
end Go.Cz.Ck
namespace Go.Cz.Wn
open Go.Cz.Ck
structure Ms where
 id : ByteArray
 auth : ByteArray
 kind : Int
 target : ByteArray
 op : Int
 name : ByteArray
 cmp : Int
 num : Int
 ka : Option Addr
 kn : Nat
 kc : Nat
 fr : Int
 un : Int
 wi : Int
abbrev Ms.v (m : Ms) : Array Value := #[.string m.id, .string m.auth, .int .i64 m.kind, .string m.target, .int .i64 m.op, .string m.name, .int .i64 m.cmp, .int .i64 m.num, .slice m.ka m.kn m.kc, .int .i64 m.fr, .int .i64 m.un, .int .i64 m.wi]
def dayB (n : Int) : Bool := decide (0 <= n) && decide (n <= 100000)
def datedB (kind fr un wi : Int) : Bool := dayB fr && (decide (0 <= wi) && (decide (wi <= 400) && ((decide (wi <= 0) || kind == 1) && (un == -1 || (dayB un && decide (fr < un))))))
def beginF (l : List Shift) (day : Int) : Int := if (instF l day 0).2 = 0 then (instF l day 0).1 else -1
def spanF (l : List Shift) (kind fr un wi : Int) : Int × Int × Int :=
 if datedB kind fr un wi && validB l then
  if (instF l fr 0).2 = 0 then ((instF l fr 0).1, if un < 0 then -1 else beginF l un, 0) else (0, 0, 10)
 else (0, 0, 1)
def appliesF (l : List Shift) (kind fr un wi signed now : Int) : Bool :=
 (spanF l kind fr un wi).2.2 == 0 && (instB signed && (instB now && (decide ((spanF l kind fr un wi).1 <= now) && ((decide ((spanF l kind fr un wi).2.1 < 0) || decide (now < (spanF l kind fr un wi).2.1)) &&
  (decide ((spanF l kind fr un wi).1 <= signed) || (decide (0 <= beginF l (fr + wi)) && decide (beginF l (fr + wi) <= now)))))))
end Go.Cz.Wn
namespace Go.Cz.Vd
open Go.Cz.Lx Go.Cz.Fo
open Go.Cz.Ck (Shift validB)
open Go.Cz.Wn (datedB appliesF)
structure Me where
 id : Bytes
 auth : Bytes
 kind : Int
 target : Bytes
 cond : Fm
 fr : Int
 un : Int
 wi : Int
structure Sc where
 dom : List Fact
 auths : List Bytes
 zones : List (List Shift)
 cases : List (List Int)
 signed : Int
 now : Int
def namedM (m : Me) : Bool := nameB m.id && (nameB m.auth && (if m.kind = 1 then decide (m.target = []) else if m.kind = 2 then nameB m.target && decide (m.target ≠ m.id) else if m.kind = 3 then nameB m.target && decide (m.target ≠ m.auth) else false))
def validM (d : List Fact) (m : Me) : Nat := if validD d = false ∨ namedM m = false then 1 else if datedB m.kind m.fr m.un m.wi = false then 10 else checkF d m.cond
structure Ve where
 kind : Int
 forbids : List Bytes
 blocks : List Bytes
end Go.Cz.Vd
namespace Go.Cz.Fo
open Go.Cz.Lx
abbrev KTok := Nat × Nat × Bytes
def strip (t : Tok) : KTok := (t.kind, t.num, t.text)
def kName (s : Bytes) : KTok := (1, 0, s)
def kSym (s : Bytes) : KTok := (4, 0, s)
def kNum (n : Int) : KTok := (2, n.toNat, Lib.itoa n)
def parK (b : Bool) (l : List KTok) : List KTok := if b = true then kSym [40] :: (l ++ [kSym [41]]) else l
def joinK (sep : KTok) : List (List KTok) -> List KTok | [] => [] | [a] => a | a :: b :: r => a ++ (sep :: joinK sep (b :: r))
mutual
def toksF : Fm -> List KTok
 | .mk op name m n ks =>
  if op = 1 then [kName wTrue] else if op = 2 then [kName wFalse]
  else if op = 3 then [kName name, kSym (symB m), kNum n]
  else if op = 4 then kName wNot :: joinK (kName []) ((toksKids op ks).take 1)
  else if op = 5 then joinK (kName wAnd) (toksKids op ks)
  else joinK (kName wOr) (toksKids op ks)
def toksKids (op : Int) : List Fm -> List (List KTok) | [] => [] | k :: r => parK (parB op k.op) (toksF k) :: toksKids op r
end
theorem toksKids_eq (op : Int) : ∀ ks : List Fm, toksKids op ks = ks.map fun k => parK (parB op k.op) (toksF k)
 | [] => by rw [toksKids]; rfl
 | k :: r => by rw [toksKids, toksKids_eq op r]; rfl
theorem textKids_eq (dec : Int -> Bytes) (op : Int) : ∀ ks : List Fm, textKids dec op ks = ks.map fun k => parT (parB op k.op) (textF dec k)
 | [] => by rw [textKids]; rfl
 | k :: r => by rw [textKids, textKids_eq dec op r]; rfl
theorem joinK_cons (sep : KTok) : ∀ (a : List KTok) (l : List (List KTok)), joinK sep (a :: l) = a ++ l.flatMap fun x => sep :: x
 | a, [] => by simp [joinK]
 | a, b :: r => by rw [joinK, joinK_cons sep b r]; simp
abbrev Wr (f : Fm) : Prop := firstF badE f = 0
theorem Wr.kid {f k : Fm} (h : Wr f) (hk : k ∈ f.kids) : Wr k := ((firstF_zero f).1 h).2 k hk
theorem formed_cases {f : Fm} (h : formedB f = true) : (f.op = 3 /\ f.kids = [] /\ 1 <= f.cmp /\ f.cmp <= 6 /\ nameB f.name = true /\ keyB f.name = false) ∨
  ((f.name = [] /\ f.cmp = 0 /\ f.num = 0) /\ (((f.op = 1 ∨ f.op = 2) /\ f.kids = []) ∨ (f.op = 4 /\ ∃ k, f.kids = [k]) ∨ ((f.op = 5 ∨ f.op = 6) /\ ∃ a b r, f.kids = a :: b :: r))) := by
 unfold formedB at h
 split at h
 ·rename_i h3; simp only [Bool.and_eq_true, decide_eq_true_eq, Bool.not_eq_true'] at h; exact .inl ⟨h3, List.length_eq_zero_iff.1 h.1, h.2.1, h.2.2.1, h.2.2.2.1, h.2.2.2.2⟩
 split at h
 ·simp at h
 rename_i h3 hb; simp only [ne_eq, not_or, Decidable.not_not] at hb; refine .inr ⟨hb, ?_⟩
 split at h
 ·rename_i h1; exact .inl ⟨h1, List.length_eq_zero_iff.1 (by simpa using h)⟩
 split at h
 ·rename_i h4; simp only [decide_eq_true_eq] at h; obtain ⟨k, hk⟩ := List.length_eq_one_iff.1 h; exact .inr (.inl ⟨h4, k, hk⟩)
 ·simp only [decide_eq_true_eq] at h; refine .inr (.inr ⟨h.1, ?_⟩)
  match hk : f.kids, h.2 with
  | a :: b :: r, _ => exact ⟨a, b, r, rfl⟩
  | [a], h2 => simp at h2
  | [], h2 => simp at h2
theorem Wr.node {f : Fm} (h : Wr f) : formedB f = true /\ (f.op = 3 -> 0 <= f.num /\ f.num <= 1000000) := by
 have h1 := ((firstF_zero f).1 h).1; unfold badE at h1
 split at h1
 ·simp at h1
 ·rename_i h2; simp only [not_or, not_and, Bool.not_eq_false] at h2; exact ⟨h2.1, fun h3 => by have := h2.2 h3; omega⟩
theorem Wr.forms {f : Fm} (h : Wr f) : (∃ s m n, f = .mk 3 s m n [] /\ 1 <= m /\ m <= 6 /\ nameB s = true /\ keyB s = false /\ 0 <= n /\ n <= 1000000) ∨ f = .mk 1 [] 0 0 [] ∨ f = .mk 2 [] 0 0 [] ∨ (∃ k, f = .mk 4 [] 0 0 [k]) ∨
  (∃ a b r, f = .mk 5 [] 0 0 (a :: b :: r)) ∨ (∃ a b r, f = .mk 6 [] 0 0 (a :: b :: r)) := by
 obtain ⟨hf, hn⟩ := h.node; obtain ⟨op, name, m, n, ks⟩ := f; rcases formed_cases hf with ⟨h1, h2, h3, h4, h5, h6⟩ | ⟨⟨h1, h2, h3⟩, h | h | h⟩
 ·simp only [Fm.op, Fm.kids, Fm.cmp, Fm.name, Fm.num] at *; subst h1 h2; exact .inl ⟨name, m, n, rfl, h3, h4, h5, h6, (hn rfl).1, (hn rfl).2⟩
 ·simp only [Fm.op, Fm.kids, Fm.cmp, Fm.name, Fm.num] at *; obtain ⟨h4 | h4, h5⟩ := h
  ·subst h1 h2 h3 h4 h5; exact .inr (.inl rfl)
  ·subst h1 h2 h3 h4 h5; exact .inr (.inr (.inl rfl))
 ·simp only [Fm.op, Fm.kids, Fm.cmp, Fm.name, Fm.num] at *; obtain ⟨h4, k, h5⟩ := h; subst h1 h2 h3 h4 h5; exact .inr (.inr (.inr (.inl ⟨k, rfl⟩)))
 ·simp only [Fm.op, Fm.kids, Fm.cmp, Fm.name, Fm.num] at *; obtain ⟨h4 | h4, a, b, r, h5⟩ := h
  ·subst h1 h2 h3 h4 h5; exact .inr (.inr (.inr (.inr (.inl ⟨a, b, r, rfl⟩))))
  ·subst h1 h2 h3 h4 h5; exact .inr (.inr (.inr (.inr (.inr ⟨a, b, r, rfl⟩))))
def Off (w : Bytes) (r : List Tok) : Prop := ∀ t r', r = t :: r' -> ¬ (t.kind = 1 /\ t.text = w)
theorem more_ok {w : Bytes} {part : List Tok -> Res} {C : List Tok -> Prop} {tk : Fm -> List KTok} {M : Nat} (hC : ∀ t r, strip t = kName w -> C (t :: r)) : ∀ (ks : List Fm) (n : Nat) (ts r : List Tok),
  (∀ k ∈ ks, ∀ ts r, ts.map strip = tk k -> ts.length < M -> C r -> part (ts ++ r) = .ok (k, r)) -> ts.map strip = (ks.flatMap fun k => kName w :: tk k) -> ts.length < M -> ks.length < n -> Off w r -> C r -> moreF w part n (ts ++ r) = .ok (ks, r)
 | [], n, ts, r, _, ht, _, hn, ho, _ => by
  have : ts = [] := by simpa using ht
  subst this; cases n with
  | zero => simp at hn
  | succ n =>
   cases r with
   | nil => rfl
   | cons t r =>
    show moreF w part (n + 1) (t :: r) = _; simp only [moreF]; rw [if_neg (ho t r rfl)]
 | k :: ks, n, ts, r, hp, ht, hM, hn, ho, hc => by
  rw [List.flatMap_cons, List.cons_append, List.map_eq_cons_iff] at ht; obtain ⟨t, ts', rfl, h1, h2⟩ := ht; obtain ⟨t1, t2, rfl, h3, h4⟩ := List.map_eq_append_iff.1 h2; cases n with
  | zero => simp at hn
  | succ n =>
   have hk : t.kind = 1 /\ t.text = w := by
    simp only [strip, kName, Prod.mk.injEq] at h1; exact ⟨h1.1, h1.2.2⟩
   simp only [List.length_cons, List.length_append] at hM hn; have hC2 : C (t2 ++ r) := by
    cases ks with
    | nil =>
     have : t2 = [] := by simpa using h4
     subst this; exact hc
    | cons k2 ks =>
     rw [List.flatMap_cons, List.cons_append, List.map_eq_cons_iff] at h4; obtain ⟨u, t3, rfl, h5, -⟩ := h4; exact hC u _ h5
   have h5 := hp k (by simp) t1 (t2 ++ r) h3 (by omega) hC2; have h6 := more_ok hC ks n t2 r (fun k hk => hp k (by simp [hk])) h4 (by omega) (by omega) ho hc; rw [List.cons_append, List.append_assoc]; simp only [moreF]; rw [if_pos hk, h5]; simp only [h6]
theorem flat_long {w : Bytes} {tk : Fm -> List KTok} : ∀ ks : List Fm, ks.length <= (ks.flatMap fun k => kName w :: tk k).length
 | [] => by simp
 | k :: ks => by have := flat_long (w := w) (tk := tk) ks; simp only [List.flatMap_cons, List.length_append, List.length_cons]; omega
theorem parts_ok {w : Bytes} {op : Int} {part : List Tok -> Res} {C : List Tok -> Prop} {tk : Fm -> List KTok} {M : Nat} (hC : ∀ t r, strip t = kName w -> C (t :: r)) (k : Fm) (ks : List Fm) (ts r : List Tok)
  (hp : ∀ q ∈ k :: ks, ∀ ts r, ts.map strip = tk q -> ts.length < M -> C r -> part (ts ++ r) = .ok (q, r)) (ht : ts.map strip = joinK (kName w) ((k :: ks).map tk)) (hM : ts.length < M) (ho : Off w r) (hc : C r) :
  partsF op w part (ts ++ r) = .ok (if ks.isEmpty then k else .mk op [] 0 0 (k :: ks), r) := by
 rw [List.map_cons, joinK_cons, List.flatMap_map] at ht; obtain ⟨t1, t2, rfl, h3, h4⟩ := List.map_eq_append_iff.1 ht; rw [List.length_append] at hM; have hC2 : C (t2 ++ r) := by
  cases ks with
  | nil =>
   have : t2 = [] := by simpa using h4
   subst this; exact hc
  | cons k2 ks =>
   rw [List.flatMap_cons, List.cons_append, List.map_eq_cons_iff] at h4; obtain ⟨u, t3, rfl, h5, -⟩ := h4; exact hC u _ h5
 have h5 := hp k (by simp) t1 (t2 ++ r) h3 (by omega) hC2; have h6 := congrArg List.length h4; rw [List.length_map] at h6; have h7 := flat_long (w := w) (tk := tk) ks; have h8 := more_ok hC ks ((t2 ++ r).length + 1) t2 r (fun q hq => hp q (by simp [hq])) h4 (by omega) (by rw [List.length_append]; omega) ho hc; unfold partsF; rw [List.append_assoc, h5]; simp only [h8]
def toksOne (f : Fm) : List KTok := parK (parB 4 f.op) (toksF f)
def toksAll (f : Fm) : List KTok := parK (parB 6 f.op) (toksF f)
theorem par5 (k : Int) : parB 5 k = parB 4 k := by simp [parB]
theorem toks5 (ks : List Fm) : toksKids 5 ks = ks.map toksOne := by
 rw [toksKids_eq]; exact List.map_congr_left fun k _ => by rw [par5]; rfl
theorem toks6 (ks : List Fm) : toksKids 6 ks = ks.map toksAll := toksKids_eq 6 ks
section
variable (fin : Int)
def OneOk (f : Fm) : Prop := ∀ (n : Nat) (ts r : List Tok), ts.map strip = toksOne f -> ts.length < n -> oneF fin n (ts ++ r) = .ok (f, r)
def AllOk (f : Fm) : Prop := ∀ (n : Nat) (ts r : List Tok), ts.map strip = toksAll f -> ts.length < n -> Off wAnd r -> partsF 5 wAnd (oneF fin n) (ts ++ r) = .ok (f, r)
def EitherOk (f : Fm) : Prop := ∀ (n : Nat) (ts r : List Tok), ts.map strip = toksF f -> ts.length < n -> Off wOr r -> Off wAnd r -> partsF 6 wOr (partsF 5 wAnd (oneF fin n)) (ts ++ r) = .ok (f, r)
theorem off_kind {t : Tok} {r : List Tok} {w : Bytes} (h : t.kind ≠ 1) : Off w (t :: r) := fun t' r' e => by
 cases e
 exact fun hx => h hx.1
theorem off_text {t : Tok} {r : List Tok} {w : Bytes} (h : t.text ≠ w) : Off w (t :: r) := fun t' r' e => by
 cases e
 exact fun hx => h hx.2
theorem off_nil {w : Bytes} : Off w [] := fun t r e => by cases e
theorem all_of_one {f : Fm} (h5 : f.op ≠ 5) (h : OneOk fin f) : AllOk fin f := fun n ts r ht hl ho => by
 have ht' : ts.map strip = toksOne f := by
  rw [ht]; unfold toksAll toksOne parB; simp [h5]
 have := parts_ok (op := 5) (w := wAnd) (C := fun _ => True) (tk := toksOne) (M := n) (part := oneF fin n) (fun _ _ _ => trivial) f [] ts r (fun q hq ts r h1 h2 _ => by
  obtain rfl : q = f := by simpa using hq
  exact h n ts r h1 h2) (by simpa [joinK] using ht') hl ho trivial
 simpa using this
theorem either_of_all {f : Fm} (h6 : f.op ≠ 6) (h : AllOk fin f) : EitherOk fin f := fun n ts r ht hl ho ha => by
 have ht' : ts.map strip = toksAll f := by
  rw [ht]; unfold toksAll parB parK; simp [h6]
 have := parts_ok (op := 6) (w := wOr) (C := Off wAnd) (tk := toksAll) (M := n) (part := partsF 5 wAnd (oneF fin n)) (fun t r ht => off_text (by
  simp only [strip, kName, Prod.mk.injEq] at ht; rw [ht.2.2]
  decide)) f [] ts r (fun q hq ts r h1 h2 h3 => by
  obtain rfl : q = f := by simpa using hq
  exact h n ts r h1 h2 h3) (by simpa [joinK] using ht') hl ho ha
 simpa using this
theorem sym_back : ∀ {m : Int}, 1 <= m -> m <= 6 -> (symI (symB m) : Int) = m /\ symI (symB m) ≠ 0 := fun {m} h1 h6 => by
 have : m = 1 ∨ m = 2 ∨ m = 3 ∨ m = 4 ∨ m = 5 ∨ m = 6 := by omega
 rcases this with rfl | rfl | rfl | rfl | rfl | rfl <;> decide
theorem one_paren {f : Fm} (h : f.op = 5 ∨ f.op = 6) (he : EitherOk fin f) : OneOk fin f := fun n ts r ht hl => by
 have hp : toksOne f = kSym [40] :: (toksF f ++ [kSym [41]]) := by
  unfold toksOne parB parK; rcases h with h | h <;> simp [h]
 rw [hp, List.map_eq_cons_iff] at ht; obtain ⟨t, ts', rfl, h1, h2⟩ := ht; obtain ⟨t1, t2, rfl, h3, h4⟩ := List.map_eq_append_iff.1 h2; rw [List.map_eq_singleton_iff] at h4; obtain ⟨u, rfl, h5⟩ := h4; cases n with
 | zero => simp at hl
 | succ n =>
  simp only [List.length_cons, List.length_append, List.length_nil] at hl; simp only [strip, kSym, Prod.mk.injEq] at h1 h5; have h6 := he n t1 (u :: r) h3 (by omega) (off_kind (by rw [h5.1]; decide)) (off_kind (by rw [h5.1]; decide)); have e : t :: (t1 ++ [u]) ++ r = t :: (t1 ++ (u :: r)) := by simp
  rw [e]; simp only [oneF]; rw [if_neg (by rw [h1.1]; simp), if_neg (by rw [h1.1]; simp), if_neg (by rw [h1.1]; simp), if_pos ⟨h1.1, h1.2.2⟩, h6]; simp only; rw [if_pos ⟨h5.1, h5.2.2⟩]
theorem key_not {s : Bytes} (h : keyB s = false) : s ≠ wNot /\ s ≠ wTrue /\ s ≠ wFalse := by
 refine ⟨?_, ?_, ?_⟩ <;> (rintro rfl; revert h; decide)
theorem name_some {s : Bytes} (h : nameB s = true) : s ≠ [] := by rintro rfl; revert h; decide
theorem reads (f : Fm) : Wr f -> OneOk fin f /\ AllOk fin f /\ EitherOk fin f := by
 refine Fm.induct (P := fun f => Wr f -> OneOk fin f /\ AllOk fin f /\ EitherOk fin f) ?_ f; clear f; intro f ih hw; have hk : ∀ k ∈ f.kids, OneOk fin k /\ AllOk fin k /\ EitherOk fin k := fun k hk => ih k hk (hw.kid hk); have up : f.op ≠ 5 -> f.op ≠ 6 -> OneOk fin f -> OneOk fin f /\ AllOk fin f /\ EitherOk fin f := fun h5 h6 h => by
  have ha := all_of_one fin h5 h; exact ⟨h, ha, either_of_all fin h6 ha⟩
 rcases hw.forms with ⟨s, m, n, rfl, hm1, hm6, hs, hy, hn0, hn1⟩ | rfl | rfl | ⟨k, rfl⟩ | ⟨a, b, r, rfl⟩ | ⟨a, b, r, rfl⟩
 ·refine up (by simp [Fm.op]) (by simp [Fm.op]) fun N ts r ht hl => ?_; have hp : toksOne (.mk 3 s m n []) = [kName s, kSym (symB m), kNum n] := by
   unfold toksOne parB parK; simp [Fm.op, toksF]
  rw [hp, List.map_eq_cons_iff] at ht; obtain ⟨t1, ts', rfl, h1, ht⟩ := ht; rw [List.map_eq_cons_iff] at ht; obtain ⟨t2, ts', rfl, h2, ht⟩ := ht; rw [List.map_eq_singleton_iff] at ht; obtain ⟨t3, rfl, h3⟩ := ht; cases N with
  | zero => simp at hl
  | succ N =>
   simp only [strip, kName, kSym, kNum, Prod.mk.injEq] at h1 h2 h3; obtain ⟨y1, y2, y3⟩ := key_not hy; obtain ⟨b1, b2⟩ := sym_back hm1 hm6; show oneF fin (N + 1) (t1 :: t2 :: t3 :: r) = _; simp only [oneF]; rw [if_neg (by rw [h1.2.2]; simp [y1]), if_neg (by rw [h1.2.2]; simp [y2]), if_neg (by rw [h1.2.2]; simp [y3]), if_neg (by rw [h1.1]; simp), if_neg (by rw [h1.1, h1.2.2, hy]; simp [name_some hs])]; simp only [testF]; rw [if_neg (by rw [h2.1, h2.2.2]; simp [b2]), if_neg (by rw [h3.1]; simp), if_neg (by rw [h3.2.1]; omega), h1.2.2, h2.2.2, b1, h3.2.1]; rw [Int.toNat_of_nonneg hn0]
 ·refine up (by simp [Fm.op]) (by simp [Fm.op]) fun N ts r ht hl => ?_; have hp : toksOne (.mk 1 [] 0 0 []) = [kName wTrue] := by
   unfold toksOne parB parK; simp [Fm.op, toksF]
  rw [hp, List.map_eq_singleton_iff] at ht; obtain ⟨t1, rfl, h1⟩ := ht; cases N with
  | zero => simp at hl
  | succ N =>
   simp only [strip, kName, Prod.mk.injEq] at h1; show oneF fin (N + 1) (t1 :: r) = _; simp only [oneF]; rw [if_neg (by rw [h1.2.2]; simp [wNot, wTrue]), if_pos ⟨h1.1, h1.2.2⟩]
 ·refine up (by simp [Fm.op]) (by simp [Fm.op]) fun N ts r ht hl => ?_; have hp : toksOne (.mk 2 [] 0 0 []) = [kName wFalse] := by
   unfold toksOne parB parK; simp [Fm.op, toksF]
  rw [hp, List.map_eq_singleton_iff] at ht; obtain ⟨t1, rfl, h1⟩ := ht; cases N with
  | zero => simp at hl
  | succ N =>
   simp only [strip, kName, Prod.mk.injEq] at h1; show oneF fin (N + 1) (t1 :: r) = _; simp only [oneF]; rw [if_neg (by rw [h1.2.2]; simp [wNot, wFalse]), if_neg (by rw [h1.2.2]; simp [wTrue, wFalse]), if_pos ⟨h1.1, h1.2.2⟩]
 ·refine up (by simp [Fm.op]) (by simp [Fm.op]) fun N ts r ht hl => ?_; have hp : toksOne (.mk 4 [] 0 0 [k]) = kName wNot :: toksOne k := by
   unfold toksOne; rw [show parB 4 (Fm.op (.mk 4 [] 0 0 [k])) = false by simp [parB, Fm.op], toksF, toksKids, toksKids]; simp [parK, joinK]
  rw [hp, List.map_eq_cons_iff] at ht; obtain ⟨t1, ts', rfl, h1, ht⟩ := ht; cases N with
  | zero => simp at hl
  | succ N =>
   simp only [strip, kName, Prod.mk.injEq] at h1; simp only [List.length_cons] at hl; rw [List.cons_append]; simp only [oneF]; rw [if_pos ⟨h1.1, h1.2.2⟩, (hk k (by simp [Fm.kids])).1 N ts' r ht (by omega)]
 ·have ha : AllOk fin (.mk 5 [] 0 0 (a :: b :: r)) := fun N ts r2 ht hl ho => by
   have hp : toksAll (.mk 5 [] 0 0 (a :: b :: r)) = joinK (kName wAnd) ((a :: b :: r).map toksOne) := by
    unfold toksAll; rw [show parB 6 (Fm.op (.mk 5 [] 0 0 (a :: b :: r))) = false by simp [parB, Fm.op], toksF, toks5]; simp [parK]
   rw [hp] at ht; have := parts_ok (op := 5) (w := wAnd) (C := fun _ => True) (tk := toksOne) (M := N) (part := oneF fin N) (fun _ _ _ => trivial) a (b :: r) ts r2 (fun q hq ts r h1 h2 _ => (hk q (by simpa [Fm.kids] using hq)).1 N ts r h1 h2) ht hl ho trivial
   simpa using this
  have he := either_of_all fin (by simp [Fm.op]) ha; exact ⟨one_paren fin (.inl rfl) he, ha, he⟩
 ·have he : EitherOk fin (.mk 6 [] 0 0 (a :: b :: r)) := fun N ts r2 ht hl ho hn => by
   have hp : toksF (.mk 6 [] 0 0 (a :: b :: r)) = joinK (kName wOr) ((a :: b :: r).map toksAll) := by
    rw [toksF, toks6]; simp
   rw [hp] at ht; have := parts_ok (op := 6) (w := wOr) (C := Off wAnd) (tk := toksAll) (M := N) (part := partsF 5 wAnd (oneF fin N)) (fun t r ht => off_text (by
    simp only [strip, kName, Prod.mk.injEq] at ht; rw [ht.2.2]
    decide)) a (b :: r) ts r2 (fun q hq ts r h1 h2 h3 => (hk q (by simpa [Fm.kids] using hq)).2.1 N ts r h1 h2 h3) ht hl ho hn
   simpa using this
  have ho := one_paren fin (.inr rfl) he; exact ⟨ho, all_of_one fin (by simp [Fm.op]) ho, he⟩
end
theorem parse_toks {l : Bytes} {f : Fm} {ts : List Tok} (hl : lexAll l = (ts, 0, 0)) (hs : ts.map strip = toksF f) (hw : Wr f) (hL : largeB f = false) : parseF l = (f, 0, 0) := by
 have h := (reads l.length f hw).2.2 (ts.length + 1) ts [] hs (by omega) off_nil off_nil; rw [List.append_nil] at h; unfold parseF eitherF; rw [hl]; simp only [ne_eq, not_true_eq_false, if_false, h, hL]
 rfl
def NameOk (ts : List Tok) : Prop := ∀ t ∈ ts, t.kind = 1 -> nameB t.text = true
def Keeps (part : List Tok -> Res) : Prop := ∀ ts f r, NameOk ts -> part ts = .ok (f, r) -> Wr f /\ NameOk r
theorem more_wr {w : Bytes} {part : List Tok -> Res} (hp : Keeps part) : ∀ (n : Nat) (ts : List Tok) (ks : List Fm) (r : List Tok), NameOk ts -> moreF w part n ts = .ok (ks, r) -> (∀ k ∈ ks, Wr k) /\ NameOk r
 | 0, ts, ks, r, ht, h => by
  simp only [moreF, Except.ok.injEq, Prod.mk.injEq] at h; obtain ⟨rfl, rfl⟩ := h; exact ⟨by simp, ht⟩
 | n + 1, [], ks, r, ht, h => by
  simp only [moreF, Except.ok.injEq, Prod.mk.injEq] at h; obtain ⟨rfl, rfl⟩ := h; exact ⟨by simp, ht⟩
 | n + 1, t :: ts, ks, r, ht, h => by
  simp only [moreF] at h; have ht2 : NameOk ts := fun u hu => ht u (by simp [hu])
  split at h
  ·split at h
   ·cases h
   ·rename_i k r2 h1; obtain ⟨h2, h3⟩ := hp _ _ _ ht2 h1
    split at h
    ·cases h
    ·rename_i ks2 r3 h4; obtain ⟨h5, h6⟩ := more_wr hp n _ _ _ h3 h4; simp only [Except.ok.injEq, Prod.mk.injEq] at h; obtain ⟨rfl, rfl⟩ := h; refine ⟨fun q hq => ?_, h6⟩; rcases List.mem_cons.1 hq with rfl | hq
     ·exact h2
     ·exact h5 q hq
  ·simp only [Except.ok.injEq, Prod.mk.injEq] at h; obtain ⟨rfl, rfl⟩ := h; exact ⟨by simp, ht⟩
theorem wr_of {f : Fm} (h1 : formedB f = true) (h2 : f.op = 3 -> 0 <= f.num /\ f.num <= 1000000) (hk : ∀ k ∈ f.kids, Wr k) : Wr f := by
 show firstF badE f = 0; rw [firstF_zero]; refine ⟨?_, hk⟩; unfold badE; rw [if_neg]; simp only [h1, not_or, not_and]; refine ⟨by simp, fun h => ?_⟩; have := h2 h; omega
theorem parts_wr {op : Int} {w : Bytes} {part : List Tok -> Res} (ho : op = 5 ∨ op = 6) (hp : Keeps part) : Keeps (partsF op w part) := fun ts f r ht h => by
 unfold partsF at h
 split at h
 ·cases h
 ·rename_i k r2 h1; obtain ⟨h2, h3⟩ := hp _ _ _ ht h1
  split at h
  ·cases h
  ·rename_i ks r3 h4; obtain ⟨h5, h6⟩ := more_wr hp _ _ _ _ h3 h4; simp only [Except.ok.injEq, Prod.mk.injEq] at h; obtain ⟨rfl, rfl⟩ := h; refine ⟨?_, h6⟩; cases ks with
   | nil => exact h2
   | cons k2 ks =>
    refine wr_of ?_ (fun h => ?_) fun q hq => ?_
    ·simp only [List.isEmpty_cons, Bool.false_eq_true, if_false]; rw [formedB_mk]; rw [if_neg (by omega), if_neg (by simp), if_neg (by omega), if_neg (by omega)]; exact decide_eq_true ⟨ho, by simp⟩
    ·simp only [List.isEmpty_cons, Bool.false_eq_true, if_false, Fm.op] at h; omega
    ·simp only [List.isEmpty_cons, Bool.false_eq_true, if_false, Fm.kids] at hq; rcases List.mem_cons.1 hq with rfl | hq
     ·exact h2
     ·exact h5 q hq
theorem symI_le (s : Bytes) : symI s <= 6 := by unfold symI; (repeat' split) <;> omega
theorem test_wr {fin : Int} {s : Bytes} {ts : List Tok} {f : Fm} {r : List Tok} (hs : nameB s = true) (hk : keyB s = false) (ht : NameOk ts) (h : testF fin s ts = .ok (f, r)) : Wr f /\ NameOk r := by
 match ts with
 | [] => simp [testF] at h
 | c :: ts =>
  simp only [testF] at h
  split at h
  ·cases h
  rename_i h1
  match ts with
  | [] => simp at h
  | m :: r2 =>
   simp only at h
   split at h
   ·cases h
   split at h
   ·cases h
   rename_i h3 h4; simp only [Except.ok.injEq, Prod.mk.injEq] at h; obtain ⟨rfl, rfl⟩ := h; simp only [not_or] at h1; have h5 := symI_le c.text; refine ⟨wr_of ?_ (fun _ => ?_) (by simp [Fm.kids]), fun u hu => ht u (by simp [hu])⟩
   ·rw [formedB_mk]; simp [hs, hk]
    omega
   ·simp only [Fm.num]; omega
theorem one_wr {fin : Int} : ∀ n : Nat, Keeps (oneF fin n)
 | 0 => fun ts f r ht h => by simp [oneF] at h
 | n + 1 => fun ts f r ht h => by
  match ts with
  | [] => simp [oneF] at h
  | t :: ts =>
   have ht2 : NameOk ts := fun u hu => ht u (by simp [hu]); simp only [oneF] at h
   split at h
   ·split at h
    ·cases h
    ·rename_i k r2 h1; obtain ⟨h2, h3⟩ := one_wr n _ _ _ ht2 h1; simp only [Except.ok.injEq, Prod.mk.injEq] at h; obtain ⟨rfl, rfl⟩ := h; exact ⟨wr_of (by rw [formedB_mk]; simp) (by simp [Fm.op]) (by simpa [Fm.kids] using h2), h3⟩
   split at h
   ·simp only [Except.ok.injEq, Prod.mk.injEq] at h; obtain ⟨rfl, rfl⟩ := h; exact ⟨wr_of (by rw [formedB_mk]; simp) (by simp [Fm.op]) (by simp [Fm.kids]), ht2⟩
   split at h
   ·simp only [Except.ok.injEq, Prod.mk.injEq] at h; obtain ⟨rfl, rfl⟩ := h; exact ⟨wr_of (by rw [formedB_mk]; simp) (by simp [Fm.op]) (by simp [Fm.kids]), ht2⟩
   split at h
   ·split at h
    ·cases h
    ·cases h
    ·rename_i g u r2 h1; obtain ⟨h2, h3⟩ := parts_wr (.inr rfl) (parts_wr (.inl rfl) (one_wr n)) _ _ _ ht2 h1
     split at h
     ·simp only [Except.ok.injEq, Prod.mk.injEq] at h; obtain ⟨rfl, rfl⟩ := h; exact ⟨h2, fun u hu => h3 u (by simp [hu])⟩
     ·cases h
   split at h
   ·cases h
   ·rename_i h5; simp only [not_or, Decidable.not_not, Bool.not_eq_true] at h5; exact test_wr (ht t (by simp) h5.1) h5.2.2 ht2 h
def Fails (part : List Tok -> Res) : Prop := ∀ ts e, part ts = .error e -> e.1 = 5 ∨ e.1 = 6 ∨ e.1 = 10
theorem more_err {w : Bytes} {part : List Tok -> Res} (hp : Fails part) : ∀ (n : Nat) (ts : List Tok) (e : Nat × Int), moreF w part n ts = .error e -> e.1 = 5 ∨ e.1 = 6 ∨ e.1 = 10
 | 0, ts, e, h => by simp [moreF] at h
 | n + 1, [], e, h => by simp [moreF] at h
 | n + 1, t :: ts, e, h => by
  simp only [moreF] at h
  split at h
  ·split at h
   ·rename_i e' h1; simp only [Except.error.injEq] at h; exact h ▸ hp _ _ h1
   ·split at h
    ·rename_i e' h1; simp only [Except.error.injEq] at h; exact h ▸ more_err hp n _ _ h1
    ·cases h
  ·cases h
theorem parts_err {op : Int} {w : Bytes} {part : List Tok -> Res} (hp : Fails part) : Fails (partsF op w part) := fun ts e h => by
 unfold partsF at h
 split at h
 ·rename_i e' h1; simp only [Except.error.injEq] at h; exact h ▸ hp _ _ h1
 ·split at h
  ·rename_i e' h1; simp only [Except.error.injEq] at h; exact h ▸ more_err hp _ _ _ h1
  ·cases h
theorem test_err {fin : Int} {s : Bytes} {ts : List Tok} {e : Nat × Int} (h : testF fin s ts = .error e) : e.1 = 5 ∨ e.1 = 6 ∨ e.1 = 10 := by
 unfold testF at h
 split at h
 ·simp only [Except.error.injEq] at h; subst h; simp
 split at h
 ·simp only [Except.error.injEq] at h; subst h; simp
 split at h
 ·simp only [Except.error.injEq] at h; subst h; simp
 split at h
 ·simp only [Except.error.injEq] at h; subst h; simp
 split at h
 ·simp only [Except.error.injEq] at h; subst h; simp
 ·cases h
theorem one_err {fin : Int} : ∀ n : Nat, Fails (oneF fin n)
 | 0 => fun ts e h => by simp only [oneF, Except.error.injEq] at h; subst h; simp
 | n + 1 => fun ts e h => by
  match ts with
  | [] => simp only [oneF, Except.error.injEq] at h; subst h; simp
  | t :: ts =>
   simp only [oneF] at h
   split at h
   ·split at h
    ·rename_i e' h1; simp only [Except.error.injEq] at h; exact h ▸ one_err n _ _ h1
    ·cases h
   split at h
   ·cases h
   split at h
   ·cases h
   split at h
   ·split at h
    ·rename_i e' h1; simp only [Except.error.injEq] at h; exact h ▸ parts_err (parts_err (one_err n)) _ _ h1
    ·simp only [Except.error.injEq] at h; subst h; simp
    ·split at h
     ·cases h
     ·simp only [Except.error.injEq] at h; subst h; simp
   split at h
   ·simp only [Except.error.injEq] at h; subst h; simp
   ·exact test_err h
theorem either_err {fin : Int} (n : Nat) : Fails (eitherF fin n) := parts_err (parts_err (one_err n))
theorem either_wr {fin : Int} (n : Nat) : Keeps (eitherF fin n) := parts_wr (.inr rfl) (parts_wr (.inl rfl) (one_wr n))
end Go.Cz.Fo
