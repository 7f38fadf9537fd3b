/-
  slices.ContainsFunc over Ops with each of the three functions that World.Defer and Queue.Add hand over.
-/
import Derived.Test.YtcnbmfaicbkhcaaGreatDoorWo1
set_option maxRecDepth 100000
namespace Go.Proofs.YtcnbmfaicbkhcaaGreatDoor
open Go Go.RowKit
attribute [local irreducible] wpList Calls Code.wp
end Go.Proofs.YtcnbmfaicbkhcaaGreatDoor
