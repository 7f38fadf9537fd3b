/-
  A world in memory (world.World): knows, the functions that Defer hands over. (Printed by gen_wo8.py.)
-/
import Derived.Test.YtcnbmfaicbkhcaaGreatDoorWo6
import Derived.Test.YtcnbmfaicbkhcaaGreatDoorWoL2
import Derived.Deep.DeepCutAuto
set_option maxRecDepth 100000
namespace Go.Proofs.YtcnbmfaicbkhcaaGreatDoor
open Go Go.RowKit
section
variable {s : WoS} {o : OpW}
end
attribute [local irreducible] wpList Calls Code.wp stV EnS.live EnS.slot okI okN pS tS memS getG pG insS delS getV pV tV okVal newSl SlS.put SlS.err SlS.putU SlS.putB descE SlS.take SlS.set SlS.errSet SlS.get SlS.has WoS.kn
end Go.Proofs.YtcnbmfaicbkhcaaGreatDoor
