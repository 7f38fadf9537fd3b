/-
  No cell of these rows narrows 'for every input' (looked for: loops, veiled, ifaces, maps, wideKeys, modest, calm, conditions, laid).
  DERIVED. THE GIVEN ROWS OF THIS SEAT. 8 by the template 'for every input the law returns true; each argument reads behind the call as it read before'; 0 by the template 'total and deterministic' (their statements: YtkcbjkadalebjaaTotals.lean).
  GIVEN WITH THE SEED: the statements are not yours to turn. If you find one false, say at which input.
  Laid BY PROGRAM, IN A SANDBOX (cutbox-rows.mjs): the forced cells as the released guide's own fill.sh prints them over the translation 84d348bfab146d28… (all of the seat's roots in one cut). By AI agents, Wed Nov 11 2026. No macro, syntax, notation, axiom, sorry.
-/
import Derived.Test.YtkcbjkadalebjaaChecked
import GoSem.Claim
import GoSem.ClaimJoined
import GoSem.ClaimMapViews
import Derived.JoinedTies
import Derived.KernelRfl
namespace Go.Proofs.Ytkcbjkadalebjaa
/- THE CELL 'sum', in the pinned program and in every row, IS THE sha256 OF THE DUMP (.gsa) THAT YtkcbjkadalebjaaProg.lean LOADS. Nothing in Lean hashes anything: it is a label: what it is worth is what the hold of that sum in a sandbox is worth. -/
noncomputable def Try.pinned : Pinned := { name := "ytkcbjkadalebjaa", sum := "84d348bfab146d2854bc2c25102d80a22708e806b16286362aaa68e70b7e1257", checked := Try.checked }
namespace Rows
def none {H : Type} : Left H := { results := [], args := [] }

/-- 'vivariumlaw3.ExprDeep': WHATEVER THE INPUT: true; the input reads as it did. -/
def exprDeepSpec : ChangeSpec := { name := "exprDeep", fn := fun _ => fun
  | [d1, d2, d3, d4] => { results := [.lit (.bool true)], args := [d1, d2, d3, d4] }
  | _ => none }
def exprDeepRow : OpenClaim := { program := "ytkcbjkadalebjaa", sum := "84d348bfab146d2854bc2c25102d80a22708e806b16286362aaa68e70b7e1257", func := "vivarium/vivariumlaw3.ExprDeep", spec := "exprDeep", unfollowed := true, recurses := true, apart := false }
def ExprDeepSaid : Prop := exprDeepRow.holds Try.pinned (OpenSpec.ofChange exprDeepSpec)

/-- ITS FALSE NEIGHBOUR: 'it returns false'. Refute it at one input. -/
def exprDeepWrong : ChangeSpec := { name := "exprDeep", fn := fun _ => fun
  | [d1, d2, d3, d4] => { results := [.lit (.bool false)], args := [d1, d2, d3, d4] }
  | _ => none }
def ExprDeepWrongFalsely : Prop := exprDeepRow.holds Try.pinned (OpenSpec.ofChange exprDeepWrong)

/-- 'vivariumlaw3.ExprAlgebra': WHATEVER THE INPUT: true; the input reads as it did. -/
def exprAlgebraSpec : ChangeSpec := { name := "exprAlgebra", fn := fun _ => fun
  | [d1, d2, d3, d4] => { results := [.lit (.bool true)], args := [d1, d2, d3, d4] }
  | _ => none }
def exprAlgebraRow : OpenClaim := { program := "ytkcbjkadalebjaa", sum := "84d348bfab146d2854bc2c25102d80a22708e806b16286362aaa68e70b7e1257", func := "vivarium/vivariumlaw3.ExprAlgebra", spec := "exprAlgebra", unfollowed := true, recurses := true, apart := false }
def ExprAlgebraSaid : Prop := exprAlgebraRow.holds Try.pinned (OpenSpec.ofChange exprAlgebraSpec)

/-- ITS FALSE NEIGHBOUR: 'it returns false'. Refute it at one input. -/
def exprAlgebraWrong : ChangeSpec := { name := "exprAlgebra", fn := fun _ => fun
  | [d1, d2, d3, d4] => { results := [.lit (.bool false)], args := [d1, d2, d3, d4] }
  | _ => none }
def ExprAlgebraWrongFalsely : Prop := exprAlgebraRow.holds Try.pinned (OpenSpec.ofChange exprAlgebraWrong)

/-- 'vivariumlaw3.ExprMakes': WHATEVER THE INPUT: true; the input reads as it did. -/
def exprMakesSpec : ChangeSpec := { name := "exprMakes", fn := fun _ => fun
  | [d] => { results := [.lit (.bool true)], args := [d] }
  | _ => none }
def exprMakesRow : OpenClaim := { program := "ytkcbjkadalebjaa", sum := "84d348bfab146d2854bc2c25102d80a22708e806b16286362aaa68e70b7e1257", func := "vivarium/vivariumlaw3.ExprMakes", spec := "exprMakes", unfollowed := true, recurses := true, apart := false }
def ExprMakesSaid : Prop := exprMakesRow.holds Try.pinned (OpenSpec.ofChange exprMakesSpec)

/-- ITS FALSE NEIGHBOUR: 'it returns false'. Refute it at one input. -/
def exprMakesWrong : ChangeSpec := { name := "exprMakes", fn := fun _ => fun
  | [d] => { results := [.lit (.bool false)], args := [d] }
  | _ => none }
def ExprMakesWrongFalsely : Prop := exprMakesRow.holds Try.pinned (OpenSpec.ofChange exprMakesWrong)

/-- 'vivariumlaw3.ExprLater': WHATEVER THE INPUT: true; the input reads as it did. -/
def exprLaterSpec : ChangeSpec := { name := "exprLater", fn := fun _ => fun
  | [d1, d2] => { results := [.lit (.bool true)], args := [d1, d2] }
  | _ => none }
def exprLaterRow : OpenClaim := { program := "ytkcbjkadalebjaa", sum := "84d348bfab146d2854bc2c25102d80a22708e806b16286362aaa68e70b7e1257", func := "vivarium/vivariumlaw3.ExprLater", spec := "exprLater", unfollowed := true, recurses := true, apart := false }
def ExprLaterSaid : Prop := exprLaterRow.holds Try.pinned (OpenSpec.ofChange exprLaterSpec)

/-- ITS FALSE NEIGHBOUR: 'it returns false'. Refute it at one input. -/
def exprLaterWrong : ChangeSpec := { name := "exprLater", fn := fun _ => fun
  | [d1, d2] => { results := [.lit (.bool false)], args := [d1, d2] }
  | _ => none }
def ExprLaterWrongFalsely : Prop := exprLaterRow.holds Try.pinned (OpenSpec.ofChange exprLaterWrong)

/-- 'vivariumlaw3.ExprBounds': WHATEVER THE INPUT: true; the input reads as it did. -/
def exprBoundsSpec : ChangeSpec := { name := "exprBounds", fn := fun _ => fun
  | [d1, d2] => { results := [.lit (.bool true)], args := [d1, d2] }
  | _ => none }
def exprBoundsRow : OpenClaim := { program := "ytkcbjkadalebjaa", sum := "84d348bfab146d2854bc2c25102d80a22708e806b16286362aaa68e70b7e1257", func := "vivarium/vivariumlaw3.ExprBounds", spec := "exprBounds", unfollowed := true, recurses := true, apart := false }
def ExprBoundsSaid : Prop := exprBoundsRow.holds Try.pinned (OpenSpec.ofChange exprBoundsSpec)

/-- ITS FALSE NEIGHBOUR: 'it returns false'. Refute it at one input. -/
def exprBoundsWrong : ChangeSpec := { name := "exprBounds", fn := fun _ => fun
  | [d1, d2] => { results := [.lit (.bool false)], args := [d1, d2] }
  | _ => none }
def ExprBoundsWrongFalsely : Prop := exprBoundsRow.holds Try.pinned (OpenSpec.ofChange exprBoundsWrong)

/-- 'vivariumlaw3.ExprLoads': WHATEVER THE INPUT: true; the input reads as it did. -/
def exprLoadsSpec : ChangeSpec := { name := "exprLoads", fn := fun _ => fun
  | [d1, d2, d3] => { results := [.lit (.bool true)], args := [d1, d2, d3] }
  | _ => none }
def exprLoadsRow : OpenClaim := { program := "ytkcbjkadalebjaa", sum := "84d348bfab146d2854bc2c25102d80a22708e806b16286362aaa68e70b7e1257", func := "vivarium/vivariumlaw3.ExprLoads", spec := "exprLoads", unfollowed := true, recurses := true, apart := false }
def ExprLoadsSaid : Prop := exprLoadsRow.holds Try.pinned (OpenSpec.ofChange exprLoadsSpec)

/-- ITS FALSE NEIGHBOUR: 'it returns false'. Refute it at one input. -/
def exprLoadsWrong : ChangeSpec := { name := "exprLoads", fn := fun _ => fun
  | [d1, d2, d3] => { results := [.lit (.bool false)], args := [d1, d2, d3] }
  | _ => none }
def ExprLoadsWrongFalsely : Prop := exprLoadsRow.holds Try.pinned (OpenSpec.ofChange exprLoadsWrong)

/-- 'vivariumlaw3.ExprTells': WHATEVER THE INPUT: true; the input reads as it did. -/
def exprTellsSpec : ChangeSpec := { name := "exprTells", fn := fun _ => fun
  | [d1, d2, d3] => { results := [.lit (.bool true)], args := [d1, d2, d3] }
  | _ => none }
def exprTellsRow : OpenClaim := { program := "ytkcbjkadalebjaa", sum := "84d348bfab146d2854bc2c25102d80a22708e806b16286362aaa68e70b7e1257", func := "vivarium/vivariumlaw3.ExprTells", spec := "exprTells", unfollowed := true, recurses := true, apart := false }
def ExprTellsSaid : Prop := exprTellsRow.holds Try.pinned (OpenSpec.ofChange exprTellsSpec)

/-- ITS FALSE NEIGHBOUR: 'it returns false'. Refute it at one input. -/
def exprTellsWrong : ChangeSpec := { name := "exprTells", fn := fun _ => fun
  | [d1, d2, d3] => { results := [.lit (.bool false)], args := [d1, d2, d3] }
  | _ => none }
def ExprTellsWrongFalsely : Prop := exprTellsRow.holds Try.pinned (OpenSpec.ofChange exprTellsWrong)

/-- 'vivariumlaw3.ExprChecks': WHATEVER THE INPUT: true; the input reads as it did. -/
def exprChecksSpec : ChangeSpec := { name := "exprChecks", fn := fun _ => fun
  | [d1, d2] => { results := [.lit (.bool true)], args := [d1, d2] }
  | _ => none }
def exprChecksRow : OpenClaim := { program := "ytkcbjkadalebjaa", sum := "84d348bfab146d2854bc2c25102d80a22708e806b16286362aaa68e70b7e1257", func := "vivarium/vivariumlaw3.ExprChecks", spec := "exprChecks", unfollowed := true, recurses := true, apart := false }
def ExprChecksSaid : Prop := exprChecksRow.holds Try.pinned (OpenSpec.ofChange exprChecksSpec)

/-- ITS FALSE NEIGHBOUR: 'it returns false'. Refute it at one input. -/
def exprChecksWrong : ChangeSpec := { name := "exprChecks", fn := fun _ => fun
  | [d1, d2] => { results := [.lit (.bool false)], args := [d1, d2] }
  | _ => none }
def ExprChecksWrongFalsely : Prop := exprChecksRow.holds Try.pinned (OpenSpec.ofChange exprChecksWrong)

/- THE SECOND FORM. 'bulk': how many values and letters a reading holds, each counted each time it is reached (what is shared counts as often as it is met; a slice's spare places count too). A statement '..UptoSaid' is the law's where the arguments, and the package variables that the reading takes, are together of bulk at most 1048576: NARROWER than '..Said'. Prove '..Said' where nothing that the law and all that it calls make is longer than what came in: it says more and counts as full. Else prove '..UptoSaid'. A law counts once. -/
mutual
def uptoBulk {H : Type} : DataW H → Nat
  | .lit (.string bytes) => bytes.length + 1
  | .lit _ => 1
  | .nil => 1
  | .ptr d => uptoBulk d + 1
  | .slice elems spare => uptoBulkAll elems + uptoBulkAll spare + 1
  | .agg parts => uptoBulkAll parts + 1
  | .iface _ d => uptoBulk d + 1
  | .map entries => uptoBulkEntries entries + 1
  | .held _ => 1
def uptoBulkAll {H : Type} : List (DataW H) → Nat
  | [] => 0
  | d :: r => uptoBulk d + uptoBulkAll r
def uptoBulkEntries {H : Type} : List (Lit × DataW H) → Nat
  | [] => 0
  | x :: r => uptoBulkEntry x + uptoBulkEntries r
def uptoBulkEntry {H : Type} : Lit × DataW H → Nat
  | (.string bytes, d) => bytes.length + uptoBulk d + 1
  | (_, d) => uptoBulk d + 1
 end
def uptoSmall : (H : Type) → List (DataW H) → Bool := fun _ ds => decide (uptoBulkAll ds ≤ 1048576)
def OpenSpec.upto (s : _root_.Go.ChangeSpec) : _root_.Go.OpenSpec := { _root_.Go.OpenSpec.ofChange s with cond := some uptoSmall }

/-- 'vivariumlaw3.ExprDeep', WHERE WHAT IT READS IS OF BULK AT MOST 1048576: true; the input reads as it did. -/
def exprDeepUptoRow : OpenClaim := { program := "ytkcbjkadalebjaa", sum := "84d348bfab146d2854bc2c25102d80a22708e806b16286362aaa68e70b7e1257", func := "vivarium/vivariumlaw3.ExprDeep", spec := "exprDeep", unfollowed := true, recurses := true, apart := false, narrowed := true }
def ExprDeepUptoSaid : Prop := exprDeepUptoRow.holds Try.pinned (OpenSpec.upto exprDeepSpec)

/-- 'vivariumlaw3.ExprAlgebra', WHERE WHAT IT READS IS OF BULK AT MOST 1048576: true; the input reads as it did. -/
def exprAlgebraUptoRow : OpenClaim := { program := "ytkcbjkadalebjaa", sum := "84d348bfab146d2854bc2c25102d80a22708e806b16286362aaa68e70b7e1257", func := "vivarium/vivariumlaw3.ExprAlgebra", spec := "exprAlgebra", unfollowed := true, recurses := true, apart := false, narrowed := true }
def ExprAlgebraUptoSaid : Prop := exprAlgebraUptoRow.holds Try.pinned (OpenSpec.upto exprAlgebraSpec)

/-- 'vivariumlaw3.ExprMakes', WHERE WHAT IT READS IS OF BULK AT MOST 1048576: true; the input reads as it did. -/
def exprMakesUptoRow : OpenClaim := { program := "ytkcbjkadalebjaa", sum := "84d348bfab146d2854bc2c25102d80a22708e806b16286362aaa68e70b7e1257", func := "vivarium/vivariumlaw3.ExprMakes", spec := "exprMakes", unfollowed := true, recurses := true, apart := false, narrowed := true }
def ExprMakesUptoSaid : Prop := exprMakesUptoRow.holds Try.pinned (OpenSpec.upto exprMakesSpec)

/-- 'vivariumlaw3.ExprLater', WHERE WHAT IT READS IS OF BULK AT MOST 1048576: true; the input reads as it did. -/
def exprLaterUptoRow : OpenClaim := { program := "ytkcbjkadalebjaa", sum := "84d348bfab146d2854bc2c25102d80a22708e806b16286362aaa68e70b7e1257", func := "vivarium/vivariumlaw3.ExprLater", spec := "exprLater", unfollowed := true, recurses := true, apart := false, narrowed := true }
def ExprLaterUptoSaid : Prop := exprLaterUptoRow.holds Try.pinned (OpenSpec.upto exprLaterSpec)

/-- 'vivariumlaw3.ExprBounds', WHERE WHAT IT READS IS OF BULK AT MOST 1048576: true; the input reads as it did. -/
def exprBoundsUptoRow : OpenClaim := { program := "ytkcbjkadalebjaa", sum := "84d348bfab146d2854bc2c25102d80a22708e806b16286362aaa68e70b7e1257", func := "vivarium/vivariumlaw3.ExprBounds", spec := "exprBounds", unfollowed := true, recurses := true, apart := false, narrowed := true }
def ExprBoundsUptoSaid : Prop := exprBoundsUptoRow.holds Try.pinned (OpenSpec.upto exprBoundsSpec)

/-- 'vivariumlaw3.ExprLoads', WHERE WHAT IT READS IS OF BULK AT MOST 1048576: true; the input reads as it did. -/
def exprLoadsUptoRow : OpenClaim := { program := "ytkcbjkadalebjaa", sum := "84d348bfab146d2854bc2c25102d80a22708e806b16286362aaa68e70b7e1257", func := "vivarium/vivariumlaw3.ExprLoads", spec := "exprLoads", unfollowed := true, recurses := true, apart := false, narrowed := true }
def ExprLoadsUptoSaid : Prop := exprLoadsUptoRow.holds Try.pinned (OpenSpec.upto exprLoadsSpec)

/-- 'vivariumlaw3.ExprTells', WHERE WHAT IT READS IS OF BULK AT MOST 1048576: true; the input reads as it did. -/
def exprTellsUptoRow : OpenClaim := { program := "ytkcbjkadalebjaa", sum := "84d348bfab146d2854bc2c25102d80a22708e806b16286362aaa68e70b7e1257", func := "vivarium/vivariumlaw3.ExprTells", spec := "exprTells", unfollowed := true, recurses := true, apart := false, narrowed := true }
def ExprTellsUptoSaid : Prop := exprTellsUptoRow.holds Try.pinned (OpenSpec.upto exprTellsSpec)

/-- 'vivariumlaw3.ExprChecks', WHERE WHAT IT READS IS OF BULK AT MOST 1048576: true; the input reads as it did. -/
def exprChecksUptoRow : OpenClaim := { program := "ytkcbjkadalebjaa", sum := "84d348bfab146d2854bc2c25102d80a22708e806b16286362aaa68e70b7e1257", func := "vivarium/vivariumlaw3.ExprChecks", spec := "exprChecks", unfollowed := true, recurses := true, apart := false, narrowed := true }
def ExprChecksUptoSaid : Prop := exprChecksUptoRow.holds Try.pinned (OpenSpec.upto exprChecksSpec)

end Rows
end Go.Proofs.Ytkcbjkadalebjaa
