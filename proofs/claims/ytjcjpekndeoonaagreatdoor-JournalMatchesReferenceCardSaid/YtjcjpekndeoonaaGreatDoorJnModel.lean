/-
  What the journal computes, in plain Lean: no program in sight.
-/
import Derived.Test.YtjcjpekndeoonaaGreatDoorJnHash
import Derived.Test.YtjcjpekndeoonaaGreatDoorDkModel
namespace Go.Cz.Jn
set_option linter.unusedSimpArgs false
set_option linter.unusedVariables false
open Go.Cz.Dk (Dm)
/-- The journal, beside its disk. -/
structure Jm where
  sectors : Nat
  count : Nat
  recs : List Bytes
  broken : Bool
def zeroB : Bytes := List.replicate 64 0
/-- Decimal digits. -/
def decGo : Nat → Nat → Bytes
  | 0, _ => []
  | f + 1, n => if n < 10 then [UInt8.ofNat (48 + n)] else decGo f (n / 10) ++ [UInt8.ofNat (48 + n % 10)]
def decB (n : Nat) : Bytes := decGo (n + 1) n
def digitsB (n w : Nat) : Bytes := List.replicate (w - (decB n).length) 48 ++ decB n
def pad48 (l : Bytes) : Bytes := (l ++ List.replicate 48 0).take 48
def sealB (place : Nat) (c : Bytes) : Bytes := sumB (digitsB place 8 ++ pad48 c) ++ pad48 c
def headB (place n : Nat) : Bytes := sealB place (digitsB n 8)
def sectorB (place : Nat) (s : Bytes) : Bytes := sealB place (digitsB s.length 2 ++ s)
/-- The count of a head, -1 if it is not valid. -/
def countB (place : Nat) (s : Bytes) (room : Nat) : Int :=
  if s = zeroB then 0 else match (List.range (room + 1)).find? (fun n => headB place n == s) with | some n => (n : Int) | none => -1
def piecesGo : Nat → Bytes → List Bytes
  | 0, _ => []
  | f + 1, l => if l = [] then [] else l.take 46 :: piecesGo f (l.drop 46)
def piecesB (l : Bytes) : List Bytes := piecesGo l.length l
def textB (recs : List Bytes) : Bytes := recs.flatMap fun r => decB r.length ++ 58 :: r
/-- The number that a text is, digit by digit as it would be written. -/
def numB (h : Bytes) : Option Nat := (List.range 20001).find? fun n => decB n == h
def parseGo : Nat → Bytes → Option (List Bytes)
  | 0, _ => none
  | f + 1, l => if l = [] then some [] else
    match l.findIdx? (· == 58) with
    | none => none
    | some k => match numB (l.take k) with
      | none => none
      | some n => if n ≤ (l.drop (k + 1)).length then (parseGo f ((l.drop (k + 1)).drop n)).map ((l.drop (k + 1)).take n :: ·) else none
def parseB (l : Bytes) : Option (List Bytes) := parseGo (l.length + 1) l
/-- The piece of a sector. -/
def pieceB (place : Nat) (s : Bytes) : Option Bytes := ((List.range 47).find? fun n => decide (1 ≤ n) && sectorB place ((s.drop 18).take n) == s).map fun n => (s.drop 18).take n
/-- Sectors are written from a place on, and the disk is synchronized. -/
def writesB (m : Dm) (place : Nat) : List Bytes → Dm × Int
  | [] => Dk.sync m
  | s :: r => if (Dk.write m place s).2 != 0 then Dk.write m place s else writesB (Dk.write m place s).1 (place + 1) r
def fixB (m : Dm) (place : Nat) (old : Bytes) (c : Nat) : Dm × Int :=
  if old = headB place c ∨ (c = 0 ∧ old = zeroB) then (m, 0) else
  if (writesB m place [zeroB]).2 = 0 ∧ 0 < c then writesB (writesB m place [zeroB]).1 place [headB place c] else writesB m place [zeroB]
def piecesOf (m : Dm) (c : Nat) : Option (List Bytes) := ((List.range c).map fun i => pieceB (2 + i) (Dk.look m (2 + i))).foldr (fun x a => match x, a with | some x, some a => some (x :: a) | _, _ => none) (some [])
/-- What 'Open' finds: an error, or the count and the records. -/
def findB (m : Dm) : Except Int (Nat × List Bytes) :=
  if m.off then .error 26 else if m.st.length < 3 then .error 1 else
  if max (countB 0 (Dk.look m 0) (m.st.length - 2)) (countB 1 (Dk.look m 1) (m.st.length - 2)) < 0 then .error 27 else
  match piecesOf m (max (countB 0 (Dk.look m 0) (m.st.length - 2)) (countB 1 (Dk.look m 1) (m.st.length - 2))).toNat with
  | none => .error 27
  | some ps => match parseB ps.flatten with
    | none => .error 27
    | some rs => .ok ((max (countB 0 (Dk.look m 0) (m.st.length - 2)) (countB 1 (Dk.look m 1) (m.st.length - 2))).toNat, rs)
/-- 'Open': the disk, the error, the journal. -/
def openB (m : Dm) : Dm × Int × Jm :=
  match findB m with
  | .error e => (m, e, ⟨0, 0, [], false⟩)
  | .ok (c, rs) =>
    if (fixB m 0 (Dk.look m 0) c).2 != 0 then ((fixB m 0 (Dk.look m 0) c).1, (fixB m 0 (Dk.look m 0) c).2, ⟨0, 0, [], false⟩) else
    if (fixB (fixB m 0 (Dk.look m 0) c).1 1 (Dk.look m 1) c).2 != 0 then ((fixB (fixB m 0 (Dk.look m 0) c).1 1 (Dk.look m 1) c).1, (fixB (fixB m 0 (Dk.look m 0) c).1 1 (Dk.look m 1) c).2, ⟨0, 0, [], false⟩) else
    ((fixB (fixB m 0 (Dk.look m 0) c).1 1 (Dk.look m 1) c).1, 0, ⟨m.st.length, c, rs, false⟩)
def Jm.room (j : Jm) : Int := (j.sectors : Int) - 2 - j.count
/-- The four steps of 'Append'. -/
def stepsB (m : Dm) (c : Nat) (ps : List Bytes) : Dm × Int :=
  let a := writesB m (2 + c) (ps.map fun _ => zeroB)
  if a.2 != 0 then a else
  let b := writesB a.1 (2 + c) ((List.range ps.length).map fun i => sectorB (2 + c + i) (ps.getD i []))
  if b.2 != 0 then b else
  let d := writesB b.1 1 [headB 1 (c + ps.length)]
  if d.2 != 0 then d else writesB d.1 0 [headB 0 (c + ps.length)]
def longB (recs : List Bytes) : Bool := recs.any fun r => decide (20000 < r.length)
/-- 'Append': the disk, the error, the journal. -/
def appendB (m : Dm) (j : Jm) (recs : List Bytes) : Dm × Int × Jm :=
  if j.broken then (m, 12, j) else if longB recs then (m, 2, j) else
  if j.room < (piecesB (textB recs)).length then (m, 28, j) else if recs = [] then (m, 0, j) else
  ((stepsB m j.count (piecesB (textB recs))).1, (stepsB m j.count (piecesB (textB recs))).2,
    if (stepsB m j.count (piecesB (textB recs))).2 = 0 then { j with count := j.count + (piecesB (textB recs)).length, recs := j.recs ++ recs } else { j with broken := true })
end Go.Cz.Jn
