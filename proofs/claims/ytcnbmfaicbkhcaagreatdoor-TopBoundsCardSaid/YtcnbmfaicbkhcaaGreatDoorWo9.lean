/-
  A world in memory (world.World): Defer.
-/
import Derived.Test.YtcnbmfaicbkhcaaGreatDoorWo8
set_option maxRecDepth 100000
namespace Go.Proofs.YtcnbmfaicbkhcaaGreatDoor
open Go Go.RowKit
section
variable {s : WoS} {l : List OpW}
end
attribute [local irreducible] wpList Calls Code.wp stV EnS.live EnS.slot WoS.kn WoS.defE WoS.defer quE OpW.ok
end Go.Proofs.YtcnbmfaicbkhcaaGreatDoor
