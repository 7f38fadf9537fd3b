/-
  No cell of these rows narrows 'for every input' (looked for: loops, veiled, ifaces, maps, wideKeys, modest, calm, conditions, laid).
  DERIVED. THE GIVEN ROWS OF THIS SEAT. 4 by the template 'for every input the law returns true; each argument reads behind the call as it read before'; 0 by the template 'total and deterministic' (their statements: YtdcihfofdjckjaaTotals.lean).
  GIVEN WITH THE SEED: the statements are not yours to turn. If you find one false, say at which input.
  Laid BY PROGRAM, IN A SANDBOX (cutbox-rows.mjs): the forced cells as the released guide's own fill.sh prints them over the translation 163b92a8beafacb8… (all of the seat's roots in one cut). By AI agents, Wed Nov 11 2026. No macro, syntax, notation, axiom, sorry.
-/
import Derived.Test.YtdcihfofdjckjaaChecked
import GoSem.Claim
import GoSem.ClaimJoined
import GoSem.ClaimMapViews
import Derived.JoinedTies
import Derived.KernelRfl
namespace Go.Proofs.Ytdcihfofdjckjaa
/- THE CELL 'sum', in the pinned program and in every row, IS THE sha256 OF THE DUMP (.gsa) THAT YtdcihfofdjckjaaProg.lean LOADS. Nothing in Lean hashes anything: it is a label: what it is worth is what the hold of that sum in a sandbox is worth. -/
noncomputable def Try.pinned : Pinned := { name := "ytdcihfofdjckjaa", sum := "163b92a8beafacb8667a2880beec86d769e8ea522f3e89dfc50b2a1e25d6425e", checked := Try.checked }
namespace Rows
def none {H : Type} : Left H := { results := [], args := [] }

/-- 'vivariumlaw8.SparseOrder': WHATEVER THE INPUT: true; the input reads as it did. -/
def sparseOrderSpec : ChangeSpec := { name := "sparseOrder", fn := fun _ => fun
  | [d1, d2] => { results := [.lit (.bool true)], args := [d1, d2] }
  | _ => none }
def sparseOrderRow : OpenClaim := { program := "ytdcihfofdjckjaa", sum := "163b92a8beafacb8667a2880beec86d769e8ea522f3e89dfc50b2a1e25d6425e", func := "vivarium/vivariumlaw8.SparseOrder", spec := "sparseOrder", apart := false }
def SparseOrderSaid : Prop := sparseOrderRow.holds Try.pinned (OpenSpec.ofChange sparseOrderSpec)

/-- ITS FALSE NEIGHBOUR: 'it returns false'. Refute it at one input. -/
def sparseOrderWrong : ChangeSpec := { name := "sparseOrder", fn := fun _ => fun
  | [d1, d2] => { results := [.lit (.bool false)], args := [d1, d2] }
  | _ => none }
def SparseOrderWrongFalsely : Prop := sparseOrderRow.holds Try.pinned (OpenSpec.ofChange sparseOrderWrong)

/-- 'vivariumlaw8.SparsePlays': WHATEVER THE INPUT: true; the input reads as it did. -/
def sparsePlaysSpec : ChangeSpec := { name := "sparsePlays", fn := fun _ => fun
  | [d] => { results := [.lit (.bool true)], args := [d] }
  | _ => none }
def sparsePlaysRow : OpenClaim := { program := "ytdcihfofdjckjaa", sum := "163b92a8beafacb8667a2880beec86d769e8ea522f3e89dfc50b2a1e25d6425e", func := "vivarium/vivariumlaw8.SparsePlays", spec := "sparsePlays", apart := false }
def SparsePlaysSaid : Prop := sparsePlaysRow.holds Try.pinned (OpenSpec.ofChange sparsePlaysSpec)

/-- ITS FALSE NEIGHBOUR: 'it returns false'. Refute it at one input. -/
def sparsePlaysWrong : ChangeSpec := { name := "sparsePlays", fn := fun _ => fun
  | [d] => { results := [.lit (.bool false)], args := [d] }
  | _ => none }
def SparsePlaysWrongFalsely : Prop := sparsePlaysRow.holds Try.pinned (OpenSpec.ofChange sparsePlaysWrong)

/-- 'vivariumlaw8.SparseRoom': WHATEVER THE INPUT: true; the input reads as it did. -/
def sparseRoomSpec : ChangeSpec := { name := "sparseRoom", fn := fun _ => fun
  | [d] => { results := [.lit (.bool true)], args := [d] }
  | _ => none }
def sparseRoomRow : OpenClaim := { program := "ytdcihfofdjckjaa", sum := "163b92a8beafacb8667a2880beec86d769e8ea522f3e89dfc50b2a1e25d6425e", func := "vivarium/vivariumlaw8.SparseRoom", spec := "sparseRoom", apart := false }
def SparseRoomSaid : Prop := sparseRoomRow.holds Try.pinned (OpenSpec.ofChange sparseRoomSpec)

/-- ITS FALSE NEIGHBOUR: 'it returns false'. Refute it at one input. -/
def sparseRoomWrong : ChangeSpec := { name := "sparseRoom", fn := fun _ => fun
  | [d] => { results := [.lit (.bool false)], args := [d] }
  | _ => none }
def SparseRoomWrongFalsely : Prop := sparseRoomRow.holds Try.pinned (OpenSpec.ofChange sparseRoomWrong)

/-- 'vivariumlaw8.SparseBack': WHATEVER THE INPUT: true; the input reads as it did. -/
def sparseBackSpec : ChangeSpec := { name := "sparseBack", fn := fun _ => fun
  | [d1, d2, d3, d4, d5] => { results := [.lit (.bool true)], args := [d1, d2, d3, d4, d5] }
  | _ => none }
def sparseBackRow : OpenClaim := { program := "ytdcihfofdjckjaa", sum := "163b92a8beafacb8667a2880beec86d769e8ea522f3e89dfc50b2a1e25d6425e", func := "vivarium/vivariumlaw8.SparseBack", spec := "sparseBack", apart := false }
def SparseBackSaid : Prop := sparseBackRow.holds Try.pinned (OpenSpec.ofChange sparseBackSpec)

/-- ITS FALSE NEIGHBOUR: 'it returns false'. Refute it at one input. -/
def sparseBackWrong : ChangeSpec := { name := "sparseBack", fn := fun _ => fun
  | [d1, d2, d3, d4, d5] => { results := [.lit (.bool false)], args := [d1, d2, d3, d4, d5] }
  | _ => none }
def SparseBackWrongFalsely : Prop := sparseBackRow.holds Try.pinned (OpenSpec.ofChange sparseBackWrong)

/- THE SECOND FORM. 'bulk': how many values and letters a reading holds, each counted each time it is reached (what is shared counts as often as it is met; a slice's spare places count too). A statement '..UptoSaid' is the law's where the arguments, and the package variables that the reading takes, are together of bulk at most 1048576: NARROWER than '..Said'. Prove '..Said' where nothing that the law and all that it calls make is longer than what came in: it says more and counts as full. Else prove '..UptoSaid'. A law counts once. -/
mutual
def uptoBulk {H : Type} : DataW H → Nat
  | .lit (.string bytes) => bytes.length + 1
  | .lit _ => 1
  | .nil => 1
  | .ptr d => uptoBulk d + 1
  | .slice elems spare => uptoBulkAll elems + uptoBulkAll spare + 1
  | .agg parts => uptoBulkAll parts + 1
  | .iface _ d => uptoBulk d + 1
  | .map entries => uptoBulkEntries entries + 1
  | .held _ => 1
def uptoBulkAll {H : Type} : List (DataW H) → Nat
  | [] => 0
  | d :: r => uptoBulk d + uptoBulkAll r
def uptoBulkEntries {H : Type} : List (Lit × DataW H) → Nat
  | [] => 0
  | x :: r => uptoBulkEntry x + uptoBulkEntries r
def uptoBulkEntry {H : Type} : Lit × DataW H → Nat
  | (.string bytes, d) => bytes.length + uptoBulk d + 1
  | (_, d) => uptoBulk d + 1
 end
def uptoSmall : (H : Type) → List (DataW H) → Bool := fun _ ds => decide (uptoBulkAll ds ≤ 1048576)
def OpenSpec.upto (s : _root_.Go.ChangeSpec) : _root_.Go.OpenSpec := { _root_.Go.OpenSpec.ofChange s with cond := some uptoSmall }

/-- 'vivariumlaw8.SparseOrder', WHERE WHAT IT READS IS OF BULK AT MOST 1048576: true; the input reads as it did. -/
def sparseOrderUptoRow : OpenClaim := { program := "ytdcihfofdjckjaa", sum := "163b92a8beafacb8667a2880beec86d769e8ea522f3e89dfc50b2a1e25d6425e", func := "vivarium/vivariumlaw8.SparseOrder", spec := "sparseOrder", apart := false, narrowed := true }
def SparseOrderUptoSaid : Prop := sparseOrderUptoRow.holds Try.pinned (OpenSpec.upto sparseOrderSpec)

/-- 'vivariumlaw8.SparsePlays', WHERE WHAT IT READS IS OF BULK AT MOST 1048576: true; the input reads as it did. -/
def sparsePlaysUptoRow : OpenClaim := { program := "ytdcihfofdjckjaa", sum := "163b92a8beafacb8667a2880beec86d769e8ea522f3e89dfc50b2a1e25d6425e", func := "vivarium/vivariumlaw8.SparsePlays", spec := "sparsePlays", apart := false, narrowed := true }
def SparsePlaysUptoSaid : Prop := sparsePlaysUptoRow.holds Try.pinned (OpenSpec.upto sparsePlaysSpec)

/-- 'vivariumlaw8.SparseRoom', WHERE WHAT IT READS IS OF BULK AT MOST 1048576: true; the input reads as it did. -/
def sparseRoomUptoRow : OpenClaim := { program := "ytdcihfofdjckjaa", sum := "163b92a8beafacb8667a2880beec86d769e8ea522f3e89dfc50b2a1e25d6425e", func := "vivarium/vivariumlaw8.SparseRoom", spec := "sparseRoom", apart := false, narrowed := true }
def SparseRoomUptoSaid : Prop := sparseRoomUptoRow.holds Try.pinned (OpenSpec.upto sparseRoomSpec)

/-- 'vivariumlaw8.SparseBack', WHERE WHAT IT READS IS OF BULK AT MOST 1048576: true; the input reads as it did. -/
def sparseBackUptoRow : OpenClaim := { program := "ytdcihfofdjckjaa", sum := "163b92a8beafacb8667a2880beec86d769e8ea522f3e89dfc50b2a1e25d6425e", func := "vivarium/vivariumlaw8.SparseBack", spec := "sparseBack", apart := false, narrowed := true }
def SparseBackUptoSaid : Prop := sparseBackUptoRow.holds Try.pinned (OpenSpec.upto sparseBackSpec)

end Rows
end Go.Proofs.Ytdcihfofdjckjaa
