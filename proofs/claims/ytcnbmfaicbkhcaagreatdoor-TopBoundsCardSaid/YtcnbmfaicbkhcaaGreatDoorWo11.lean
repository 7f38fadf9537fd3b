/-
  A world in memory (world.World): Reader, Read.
-/
import Derived.Test.YtcnbmfaicbkhcaaGreatDoorWo6
import Derived.Test.YtcnbmfaicbkhcaaGreatDoorWoL2
set_option maxRecDepth 100000
namespace Go.Proofs.YtcnbmfaicbkhcaaGreatDoor
open Go Go.RowKit
attribute [local irreducible] wpList Calls Code.wp stV EnS.live EnS.slot okI okN pS tS memS getG pG insS delS getV pV tV okVal newSl SlS.put SlS.err SlS.putU SlS.putB descE SlS.take SlS.set SlS.errSet SlS.get SlS.has WoS.reader WoS.read newE lagE
section
variable {w0 w : World} {L : List As} {R : Nat} {l : List Cmp} {c : Nat} {X : Nat} {t : SlS}
end
end Go.Proofs.YtcnbmfaicbkhcaaGreatDoor
