/-
  Things with parts (ent.Ents), 3: Get, Remove. (Printed by gen_en.py.)
-/
import Derived.Test.YtcnbmfaicbkhcaaGreatDoorEn
import Derived.Deep.DeepCutAuto
import Derived.Deep.CutRange
import Derived.Deep.CutBlock
set_option maxRecDepth 100000
namespace Go.Proofs.YtcnbmfaicbkhcaaGreatDoor
open Go Go.RowKit
section
variable {s : EnS} {h : Hdl} {c : Int} {u : V3} {e : Int}
end
attribute [local irreducible] wpList Calls Code.wp okI okN pS tS memS getG pG insS delS getV pV tV okVal newSl SlS.put SlS.err SlS.putU SlS.putB descE SlS.take SlS.set SlS.errSet SlS.get SlS.has stV EnS.live EnS.get EnS.slot
end Go.Proofs.YtcnbmfaicbkhcaaGreatDoor
