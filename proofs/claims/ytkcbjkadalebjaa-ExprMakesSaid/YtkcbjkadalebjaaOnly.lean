/-
  Of the state's assertions one or two alone.
-/
import Derived.Test.YtkcbjkadalebjaaSl
namespace Go.Proofs.Ytkcbjkadalebjaa
open Go Go.RowKit
theorem St.only {w0 w : World} {p : As} : ∀ {L : List As}, St w0 (p :: L) w → St w0 [p] w
  | [], hs => hs
  | _ :: _, hs => St.only hs.rot.drop
theorem St.only2 {w0 w : World} {p q : As} : ∀ {L : List As}, St w0 (p :: q :: L) w → St w0 [p, q] w
  | [], hs => hs
  | r :: L, hs => St.only2 (L := L) (St.drop (hs.ent ((Ent.cons p (Ent.swap q r L)).trans (Ent.swap p r (q :: L)))))
end Go.Proofs.Ytkcbjkadalebjaa
