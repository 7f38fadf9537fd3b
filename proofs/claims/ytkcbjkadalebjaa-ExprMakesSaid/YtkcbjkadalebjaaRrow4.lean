/-
  The document's rising rows (vivariumref1), 4: List, Word.
-/
import Derived.Test.YtkcbjkadalebjaaRrow3
set_option maxRecDepth 100000
namespace Go.Proofs.Ytkcbjkadalebjaa
open Go Go.RowKit
attribute [local irreducible] wpList Calls Code.wp

theorem St.newly {w : World} : St w [] w := St.start w
end Go.Proofs.Ytkcbjkadalebjaa
