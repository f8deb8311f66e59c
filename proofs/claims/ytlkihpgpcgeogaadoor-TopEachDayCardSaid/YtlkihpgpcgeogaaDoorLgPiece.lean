/-
  A ledger with two accounts: what it holds, and how it lies in memory.
-/
import Derived.Test.YtlkihpgpcgeogaaDoorLgKit
namespace Go.Cz.Td
/-- A booking with two postings; 'true' is the bank's account, which comes first if 'o'. -/
structure Bkg where
  id : List UInt8
  tm : Int
  o : Bool
  u : Int
structure Lg where
  f : Bool → Int
  ids : List (List UInt8)
  bks : List Bkg
def amt (u : Int) (z : Bool) : Int := if z then -u else u
def Lg.book (s : Lg) (b : Bkg) : Lg := ⟨fun z => s.f z + amt b.u z, s.ids ++ [b.id], s.bks ++ [b]⟩
def upd (f : Bool → Int) (z : Bool) (x : Int) : Bool → Int := fun y => if y = z then x else f y
theorem upd_both (f : Bool → Int) (z : Bool) (g : Bool → Int) : upd (upd f z (g z)) (!z) (g !z) = g := by
  funext y
  cases y <;> cases z <;> rfl
end Go.Cz.Td
namespace Go.Proofs.YtlkihpgpcgeogaaDoor
open Go.RowKit Go.Cz Go.Cz.Td Go.ChangeMaps
set_option linter.unusedSimpArgs false
set_option linter.unusedVariables false
attribute [local irreducible] cList cPlan
def nmB (z : Bool) : List UInt8 := if z then nBank else nFrozen
abbrev acV (x : Int) (z : Bool) : Value := .agg #[.int .i64 x, .bool z]
def acE (f : Bool → Int) : Array MapEntry := #[mE nBank (acV (f true) true) 0, mE nFrozen (acV (f false) false) 1]
def ixB (z : Bool) : Nat := if z then 0 else 1
theorem nm_ne (z : Bool) : nmB z ≠ nmB !z := by cases z <;> decide
theorem find_ac (f : Bool → Int) (z : Bool) : Instr.findNow .string (.string (bs (nmB z))) (acE f).toList 0 = some (some (ixB z, acV (f z) z)) := by
  have h1 : ¬ nFrozen = nBank := by decide
  cases z <;> simp [acE, Instr.findNow, Instr.sameNow, bs_beq, nmB, ixB, h1]
theorem ac_at (f : Bool → Int) (z : Bool) : ∃ x, (acE f)[ixB z]? = some x ∧ x.key = .string (bs (nmB z)) := by
  cases z <;> exact ⟨_, rfl, rfl⟩
theorem ac_set (f : Bool → Int) (z : Bool) (x : Int) : (acE f).modify (ixB z) (fun e => { e with key := .string (bs (nmB z)), val := acV x z }) = acE (upd f z x) := by
  cases z <;> rfl
/-- The entries of 'trial'. -/
abbrev tr1 (o : Bool) (f : Bool → Int) (c : Nat) : Array MapEntry := #[mE (nmB o) (acV (f o) o) c]
abbrev trE (o : Bool) (f : Bool → Int) (c : Nat) : Array MapEntry := #[mE (nmB o) (acV (f o) o) c, mE (nmB !o) (acV (f !o) !o) (c + 1)]
theorem find_tr0 (k : List UInt8) : Instr.findNow .string (.string (bs k)) (#[] : Array MapEntry).toList 0 = some none := rfl
theorem find_tr1 (o : Bool) (f : Bool → Int) (c : Nat) : Instr.findNow .string (.string (bs (nmB !o))) (tr1 o f c).toList 0 = some none := by
  have h := nm_ne o
  simp [Instr.findNow, Instr.sameNow, bs_beq, h.symm]
def pcs (o : Bool) (u : Int) : List Value := [.string (bs (nmB o)), .int .i64 (amt u o), .string (bs (nmB !o)), .int .i64 (amt u !o)]
def bcl (x : Bkg × Value) : List Value := [.string (bs x.1.id), .int .i64 x.1.tm, x.2]
def bcs (l : List (Bkg × Value)) : List Value := l.flatMap bcl
theorem bcs_len : ∀ L : List (Bkg × Value), (bcs L).length = L.length * 3
  | [] => rfl
  | a :: r => by
    have e : bcs (a :: r) = bcl a ++ bcs r := rfl
    rw [e, List.length_append, bcs_len r, List.length_cons]; simp [bcl]; omega
theorem bcs_append (L : List (Bkg × Value)) (x : Bkg × Value) : bcs (L ++ [x]) = bcs L ++ bcl x := by simp [bcs]
theorem bcs_at : ∀ (L : List (Bkg × Value)) (j : Nat) (x : Bkg × Value), L[j]? = some x → (bcs L)[j * 3]? = some (.string (bs x.1.id)) ∧ (bcs L)[j * 3 + 1]? = some (.int .i64 x.1.tm) ∧ (bcs L)[j * 3 + 2]? = some x.2
  | [], j, x, h => by simp at h
  | a :: r, 0, x, h => by
    simp at h
    subst h
    simp [bcs, bcl]
  | a :: r, j + 1, x, h => by
    have h1 := bcs_at r j x (by simpa using h)
    have e : bcs (a :: r) = bcl a ++ bcs r := rfl
    have e0 : ∀ i, (bcl a ++ bcs r)[(j + 1) * 3 + i]? = (bcs r)[j * 3 + i]? := fun i => by
      rw [List.getElem?_append_right (by simp [bcl]; omega)]
      congr 1
      simp [bcl]; omega
    have e1 := e0 0
    simp only [Nat.add_zero] at e1
    rw [e, e1, e0, e0]
    exact h1
/-- The postings of some bookings, each in a row of its own. -/
def postsP : List (Bkg × Value) → Piece
  | [] => nilP
  | x :: r => pairP (rowP 38 2 x.2 2 (pcs x.1.o x.1.u)) (postsP r)
theorem posts_row : ∀ {L : List (Bkg × Value)} {w : World} {S : List Nat}, (postsP L).lies w S → ∀ {j : Nat} {x : Bkg × Value}, L[j]? = some x → w.ownsRow 0 38 2 x.2 2 (pcs x.1.o x.1.u)
  | [], w, S, _, j, x, h => by simp at h
  | a :: r, w, S, ⟨S1, S2, h1, h2, _, _⟩, 0, x, h => by
    simp at h
    subst h
    exact h1.1
  | a :: r, w, S, ⟨S1, S2, h1, h2, _, _⟩, j + 1, x, h => posts_row h2 (by simpa using h)
theorem posts_snoc : ∀ (L : List (Bkg × Value)) (x : Bkg × Value) {w : World} {S T : List Nat}, (postsP L).lies w S → (rowP 38 2 x.2 2 (pcs x.1.o x.1.u)).lies w T → (∀ k ∈ T, k ∉ S) → (postsP (L ++ [x])).lies w (S ++ T)
  | [], x, w, S, T, h, h2, h3 => by
    have e : S = [] := h
    subst e
    exact ⟨T, [], h2, rfl, by simp, by simp⟩
  | a :: r, x, w, S, T, h, h5, h6 => by
    obtain ⟨S1, S2, h1, h2, rfl, h4⟩ := h
    refine ⟨S1, S2 ++ T, h1, posts_snoc r x h2 h5 fun k hk hx => h6 k hk (List.mem_append.2 (.inr hx)), by simp, fun k hk hx => ?_⟩
    rcases List.mem_append.1 hk with hk | hk
    · exact h4 k hk hx
    · exact h6 k hk (List.mem_append.2 (.inl hx))
abbrev lobj (ga : Nat) (v : Value) (gi gt : Nat) : Obj := .cells #[.map (some ga), v, .map (some gi), .map (some gt)] 67 (0, 0)
def idsOk (es : Array MapEntry) (ids : List (List UInt8)) : Prop := es.toList.map (·.key) = ids.map (fun k => .string (bs k))
structure LedI where
  ga : Nat
  gi : Nat
  gt : Nat
  v : Value
  ids : Array MapEntry
  ci : Nat
  tr : Array MapEntry
  ct : Nat
  bl : List (Bkg × Value)
abbrev brow (v : Value) (bl : List (Bkg × Value)) : Piece := rowP 41 3 v bl.length (bcs bl)
/-- A ledger with two accounts. -/
def ledP (b : Nat) (s : Lg) : Piece := exP fun i : { i : LedI // idsOk i.ids s.ids ∧ i.bl.map (·.1) = s.bks } =>
  joinP [blk b (lobj i.1.ga i.1.v i.1.gi i.1.gt), blk i.1.ga (.map (acE s.f) 2), blk i.1.gi (.map i.1.ids i.1.ci), blk i.1.gt (.map i.1.tr i.1.ct), brow i.1.v i.1.bl, postsP i.1.bl]
end Go.Proofs.YtlkihpgpcgeogaaDoor
namespace Go.Cz
open Go.RowKit Go.Cz.Td Go.Proofs.YtlkihpgpcgeogaaDoor
section
variable {w0 w : World} {ps : List Piece} {b : Nat} {s : Lg}
theorem Owns.led (h : Owns w0 w (ledP b s :: ps)) : ∃ ga gi gt v ids ci tr ct bl, idsOk ids s.ids ∧ bl.map (·.1) = s.bks ∧
    Owns w0 w (Cz.blk b (lobj ga v gi gt) :: Cz.blk ga (.map (acE s.f) 2) :: Cz.blk gi (.map ids ci) :: Cz.blk gt (.map tr ct) :: brow v bl :: postsP bl :: ps) := by
  obtain ⟨⟨i, h1, h2⟩, h⟩ := h.ex
  exact ⟨i.ga, i.gi, i.gt, i.v, i.ids, i.ci, i.tr, i.ct, i.bl, h1, h2, Owns.split h⟩
theorem Owns.asLed {ga gi gt : Nat} {v : Value} {ids : Array MapEntry} {ci : Nat} {tr : Array MapEntry} {ct : Nat} {bl : List (Bkg × Value)} (h1 : idsOk ids s.ids) (h2 : bl.map (·.1) = s.bks)
    (h : Owns w0 w (Cz.blk b (lobj ga v gi gt) :: Cz.blk ga (.map (acE s.f) 2) :: Cz.blk gi (.map ids ci) :: Cz.blk gt (.map tr ct) :: brow v bl :: postsP bl :: ps)) : Owns w0 w (ledP b s :: ps) :=
  Owns.asEx (i := ⟨⟨ga, gi, gt, v, ids, ci, tr, ct, bl⟩, h1, h2⟩) (Owns.join (qs := [_, _, _, _, _, _]) h)
end
end Go.Cz
