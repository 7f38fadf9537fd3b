/-
  A world in memory: Held, Hold, Free.
-/
import Derived.Test.YtcnbmfaicbkhcaaGreatDoorWo5
set_option maxRecDepth 100000
namespace Go.Proofs.YtcnbmfaicbkhcaaGreatDoor
open Go Go.RowKit
attribute [local irreducible] wpList Calls Code.wp
section
variable {w0 w : World} {L : List As} {W E A R X Q n : Nat} {s : WoS}
end
end Go.Proofs.YtcnbmfaicbkhcaaGreatDoor
