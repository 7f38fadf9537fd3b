/-
  A walk cut into declarations: the statement that begins with a region, and what comes behind it, out of a function's body.
-/
import Derived.Test.YtiafdlofcjbllaaGreatDoorJA
import Derived.WalkKit
namespace Go.Proofs.YtiafdlofcjbllaaGreatDoor
open Go Go.RowKit
def firstReg : Code → Option Nat
  | .region id _ _ => some id
  | _ => none
/-- The row 'a; b' whose a is the region. -/
def findSeq (n : Nat) : Code → Option (Code × Code)
  | .seq a b => if firstReg a = some n then some (a, b) else match findSeq n a with
    | some c => some c
    | none => findSeq n b
  | .block _ c => findSeq n c
  | .loop c => findSeq n c
  | .scope c => findSeq n c
  | .cond _ a b => match findSeq n a with
    | some c => some c
    | none => findSeq n b
  | _ => none
/-- .. the region, and what is behind it. -/
def hdAt (n : Nat) (c : Code) : Code := ((findSeq n c).map (·.1)).getD .skip
def tlAt (n : Nat) (c : Code) : Code := ((findSeq n c).map (·.2)).getD .skip
end Go.Proofs.YtiafdlofcjbllaaGreatDoor
