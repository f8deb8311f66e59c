/-
  Verdicts, in plain Lean.
-/
import Derived.Test.YtoeknmkephnekaaGreatDoorFmLaws
import Derived.Test.YtoeknmkephnekaaGreatDoorWnModel
namespace Go.Cz.Vd
set_option linter.unusedVariables false
open Go.Cz.Lx Go.Cz.Fo
open Go.Cz.Ck (Shift validB)
open Go.Cz.Wn (datedB appliesF)
/-- A measure. -/
structure Me where
  id : Bytes
  auth : Bytes
  kind : Int
  target : Bytes
  cond : Fm
  fr : Int
  un : Int
  wi : Int
/-- A scene. -/
structure Sc where
  dom : List Fact
  auths : List Bytes
  zones : List (List Shift)
  cases : List (List Int)
  signed : Int
  now : Int
/-- The authorities of a scene are proper, beside those that were seen. -/
def authL (d : List Fact) : List Bytes → List Bytes → List (List Shift) → List (List Int) → Bool
  | _, [], _, _ => true
  | seen, a :: ar, z :: zs, c :: cs => nameB a && (!seen.contains a && (validB z && (fitsB d c && authL d (a :: seen) ar zs cs)))
  | _, _ :: _, _, _ => false
def timeB (a b : Int) : Bool := decide (0 ≤ a) && (decide (a ≤ b) && decide (b ≤ 144001439))
def properB (s : Sc) : Bool := decide (1 ≤ s.auths.length) && (decide (s.auths.length ≤ 6) && (decide (s.zones.length = s.auths.length) && (decide (s.cases.length = s.auths.length) && (validD s.dom && (authL s.dom [] s.auths s.zones s.cases && timeB s.signed s.now)))))
def namedM (m : Me) : Bool := nameB m.id && (nameB m.auth && (if m.kind = 1 then decide (m.target = []) else if m.kind = 2 then nameB m.target && decide (m.target ≠ m.id) else if m.kind = 3 then nameB m.target && decide (m.target ≠ m.auth) else false))
/-- What is wrong with a measure. -/
def validM (d : List Fact) (m : Me) : Nat := if validD d = false ∨ namedM m = false then 1 else if datedB m.kind m.fr m.un m.wi = false then 10 else checkF d m.cond
def firstM (d : List Fact) : List Me → Nat | [] => 0 | m :: r => if validM d m ≠ 0 then validM d m else firstM d r
def twice : List Bytes → Bool | [] => false | a :: r => r.contains a || twice r
/-- What is wrong with the arguments. -/
def checkV (l : List Me) (s : Sc) : Nat := if properB s = false then 1 else if 200 < l.length then 2 else if firstM s.dom l ≠ 0 then firstM s.dom l else if twice (l.map Me.id) = true then 9 else 0
/-- Where an authority stands. -/
def idxA (a : Bytes) : List Bytes → Option Nat
  | [] => none
  | b :: r => if b = a then some 0 else (idxA a r).map (· + 1)
/-- A measure counts. -/
def countsB (s : Sc) (m : Me) : Bool := match idxA m.auth s.auths with
  | some i => appliesF (s.zones.getD i []) m.kind m.fr m.un m.wi s.signed s.now && holdsF s.dom (s.cases.getD i []) m.cond
  | none => false
def counting (s : Sc) (k : Int) (l : List Me) : List Me := l.filter fun m => decide (m.kind = k) && countsB s m
def exempts (s : Sc) (l : List Me) : List (Bytes × Bytes) := (counting s 2 l).map fun m => (m.auth, m.target)
/-- What forbids the step. -/
def forbs (s : Sc) (l : List Me) : List Me := (counting s 1 l).filter fun m => !(exempts s l).contains (m.auth, m.id)
def leftM (s : Sc) (l : List Me) (cov : List Bytes) : List Me := (forbs s l).filter fun m => !cov.contains m.id
def blocksM (s : Sc) (l : List Me) (cov : List Bytes) : List Me := (counting s 3 l).filter fun m => ((leftM s l cov).map Me.auth).contains m.target
structure Ve where
  kind : Int
  forbids : List Bytes
  blocks : List Bytes
def verdictOf (all left blocks : List Bytes) : Ve := if all = [] then ⟨1, [], []⟩ else if left = [] then ⟨4, all, []⟩ else if blocks = [] then ⟨2, left, []⟩ else ⟨3, left, blocks⟩
/-- What 'Licensed' answers. -/
def licensedV (l : List Me) (s : Sc) (cov : List Bytes) : Ve × Nat := if checkV l s ≠ 0 then (⟨0, [], []⟩, checkV l s) else (verdictOf ((forbs s l).map Me.id) ((leftM s l cov).map Me.id) ((blocksM s l cov).map Me.id), 0)
def decideV (l : List Me) (s : Sc) : Ve × Nat := licensedV l s []
end Go.Cz.Vd
