/-
  Contracts of lazy.Ok and of slices.ContainsFunc over Ops.
-/
import Derived.Test.YtcnbmfaicbkhcaaGreatDoorWoLaw
import Derived.Test.YtcnbmfaicbkhcaaGreatDoorRegM
import Derived.Laws.StructEq
import Derived.Laws.Tables
import Derived.Laws.Cover2
import Derived.KernelRfl
set_option maxRecDepth 100000
namespace Go.Proofs.YtcnbmfaicbkhcaaGreatDoor
open Go Go.RowKit
attribute [local irreducible] wpList Calls Code.wp
def valW (o : OpW) : Value := .agg (c7w o).toArray
end Go.Proofs.YtcnbmfaicbkhcaaGreatDoor
