/-
  NARROWER THAN 'FOR EVERY INPUT', by the rows' own cells (each row's printed sentence says how): HibitLevels: laid · HibitLists: laid · HibitFar: laid · HibitBack: laid · HibitSame: laid · HibitPlays: laid.
  DERIVED. THE GIVEN ROWS OF THIS SEAT. 6 by the template 'for every input the law returns true; each argument reads behind the call as it read before'; 0 by the template 'total and deterministic' (their statements: YtdcihfofdjckjaaDoorTotals.lean).
  GIVEN WITH THE SEED: the statements are not yours to turn. If you find one false, say at which input.
  Laid BY PROGRAM, IN A SANDBOX (cutbox-rows.mjs): the forced cells as the released guide's own fill.sh prints them over the translation 9b570530d68ec29b… (all of the seat's roots in one cut). By AI agents, Wed Nov 11 2026. No macro, syntax, notation, axiom, sorry.
-/
import Derived.Test.YtdcihfofdjckjaaDoorChecked
import GoSem.Claim
import GoSem.ClaimJoined
import GoSem.ClaimMapViews
import Derived.JoinedTies
import Derived.KernelRfl
namespace Go.Proofs.YtdcihfofdjckjaaDoor
/- THE CELL 'sum', in the pinned program and in every row, IS THE sha256 OF THE DUMP (.gsa) THAT YtdcihfofdjckjaaDoorProg.lean LOADS. Nothing in Lean hashes anything: it is a label: what it is worth is what the hold of that sum in a sandbox is worth. -/
noncomputable def Tryd.pinned : Pinned := { name := "ytdcihfofdjckjaadoor", sum := "9b570530d68ec29b4c22b9494757a9e52032aaabf13933db0893083ab8bfffc2", checked := Tryd.checked }
namespace Rows
def none {H : Type} : Left H := { results := [], args := [] }

/- WHAT THE LISTED PACKAGE-LEVEL VARIABLES READ AS WHEN THE CALL BEGINS. Each datum BY PROGRAM (the guide's laid-datum.mjs) off the statement by which the dump's own 'gosem.cut.vars' lays the variable. In a bare row this is a premise. The card (YtdcihfofdjckjaaDoorCards.lean) ties it to the program's text. -/
def laid_math_bits_deBruijn64tab {H : Type} : DataW H := .agg [.lit (.int .u8 0), .lit (.int .u8 1), .lit (.int .u8 56), .lit (.int .u8 2), .lit (.int .u8 57), .lit (.int .u8 49), .lit (.int .u8 28), .lit (.int .u8 3), .lit (.int .u8 61), .lit (.int .u8 58), .lit (.int .u8 42), .lit (.int .u8 50), .lit (.int .u8 38), .lit (.int .u8 29), .lit (.int .u8 17), .lit (.int .u8 4), .lit (.int .u8 62), .lit (.int .u8 47), .lit (.int .u8 59), .lit (.int .u8 36), .lit (.int .u8 45), .lit (.int .u8 43), .lit (.int .u8 51), .lit (.int .u8 22), .lit (.int .u8 53), .lit (.int .u8 39), .lit (.int .u8 33), .lit (.int .u8 30), .lit (.int .u8 24), .lit (.int .u8 18), .lit (.int .u8 12), .lit (.int .u8 5), .lit (.int .u8 63), .lit (.int .u8 55), .lit (.int .u8 48), .lit (.int .u8 27), .lit (.int .u8 60), .lit (.int .u8 41), .lit (.int .u8 37), .lit (.int .u8 16), .lit (.int .u8 46), .lit (.int .u8 35), .lit (.int .u8 44), .lit (.int .u8 21), .lit (.int .u8 52), .lit (.int .u8 32), .lit (.int .u8 23), .lit (.int .u8 11), .lit (.int .u8 54), .lit (.int .u8 26), .lit (.int .u8 40), .lit (.int .u8 15), .lit (.int .u8 34), .lit (.int .u8 20), .lit (.int .u8 31), .lit (.int .u8 10), .lit (.int .u8 25), .lit (.int .u8 14), .lit (.int .u8 19), .lit (.int .u8 9), .lit (.int .u8 13), .lit (.int .u8 8), .lit (.int .u8 7), .lit (.int .u8 6)]

/-- 'vivariumlaw2.HibitLevels': WHATEVER THE INPUT: true; the input reads as it did. -/
def hibitLevelsSpec : ChangeSpec := { name := "hibitLevels", fn := fun _ => fun
  | [d1, d2] => { results := [.lit (.bool true)], args := [d1, d2] }
  | _ => none }
def hibitLevelsRow : OpenClaim := { program := "ytdcihfofdjckjaadoor", sum := "9b570530d68ec29b4c22b9494757a9e52032aaabf13933db0893083ab8bfffc2", func := "vivarium/vivariumlaw2.HibitLevels", spec := "hibitLevels", recurses := true, named := ["math/bits.deBruijn64tab"], apart := false, laid := [("math/bits.deBruijn64tab", laid_math_bits_deBruijn64tab)] }
def HibitLevelsSaid : Prop := hibitLevelsRow.holds Tryd.pinned (OpenSpec.ofChange hibitLevelsSpec)

/-- ITS FALSE NEIGHBOUR: 'it returns false'. Refute it at one input. -/
def hibitLevelsWrong : ChangeSpec := { name := "hibitLevels", fn := fun _ => fun
  | [d1, d2] => { results := [.lit (.bool false)], args := [d1, d2] }
  | _ => none }
def HibitLevelsWrongFalsely : Prop := hibitLevelsRow.holds Tryd.pinned (OpenSpec.ofChange hibitLevelsWrong)

/-- 'vivariumlaw2.HibitLists': WHATEVER THE INPUT: true; the input reads as it did. -/
def hibitListsSpec : ChangeSpec := { name := "hibitLists", fn := fun _ => fun
  | [d1, d2] => { results := [.lit (.bool true)], args := [d1, d2] }
  | _ => none }
def hibitListsRow : OpenClaim := { program := "ytdcihfofdjckjaadoor", sum := "9b570530d68ec29b4c22b9494757a9e52032aaabf13933db0893083ab8bfffc2", func := "vivarium/vivariumlaw2.HibitLists", spec := "hibitLists", recurses := true, named := ["math/bits.deBruijn64tab"], apart := false, laid := [("math/bits.deBruijn64tab", laid_math_bits_deBruijn64tab)] }
def HibitListsSaid : Prop := hibitListsRow.holds Tryd.pinned (OpenSpec.ofChange hibitListsSpec)

/-- ITS FALSE NEIGHBOUR: 'it returns false'. Refute it at one input. -/
def hibitListsWrong : ChangeSpec := { name := "hibitLists", fn := fun _ => fun
  | [d1, d2] => { results := [.lit (.bool false)], args := [d1, d2] }
  | _ => none }
def HibitListsWrongFalsely : Prop := hibitListsRow.holds Tryd.pinned (OpenSpec.ofChange hibitListsWrong)

/-- 'vivariumlaw2.HibitFar': WHATEVER THE INPUT: true; the input reads as it did. -/
def hibitFarSpec : ChangeSpec := { name := "hibitFar", fn := fun _ => fun
  | [d1, d2] => { results := [.lit (.bool true)], args := [d1, d2] }
  | _ => none }
def hibitFarRow : OpenClaim := { program := "ytdcihfofdjckjaadoor", sum := "9b570530d68ec29b4c22b9494757a9e52032aaabf13933db0893083ab8bfffc2", func := "vivarium/vivariumlaw2.HibitFar", spec := "hibitFar", recurses := true, named := ["math/bits.deBruijn64tab"], apart := false, laid := [("math/bits.deBruijn64tab", laid_math_bits_deBruijn64tab)] }
def HibitFarSaid : Prop := hibitFarRow.holds Tryd.pinned (OpenSpec.ofChange hibitFarSpec)

/-- ITS FALSE NEIGHBOUR: 'it returns false'. Refute it at one input. -/
def hibitFarWrong : ChangeSpec := { name := "hibitFar", fn := fun _ => fun
  | [d1, d2] => { results := [.lit (.bool false)], args := [d1, d2] }
  | _ => none }
def HibitFarWrongFalsely : Prop := hibitFarRow.holds Tryd.pinned (OpenSpec.ofChange hibitFarWrong)

/-- 'vivariumlaw2.HibitBack': WHATEVER THE INPUT: true; the input reads as it did. -/
def hibitBackSpec : ChangeSpec := { name := "hibitBack", fn := fun _ => fun
  | [d1, d2, d3] => { results := [.lit (.bool true)], args := [d1, d2, d3] }
  | _ => none }
def hibitBackRow : OpenClaim := { program := "ytdcihfofdjckjaadoor", sum := "9b570530d68ec29b4c22b9494757a9e52032aaabf13933db0893083ab8bfffc2", func := "vivarium/vivariumlaw2.HibitBack", spec := "hibitBack", recurses := true, named := ["math/bits.deBruijn64tab"], apart := false, laid := [("math/bits.deBruijn64tab", laid_math_bits_deBruijn64tab)] }
def HibitBackSaid : Prop := hibitBackRow.holds Tryd.pinned (OpenSpec.ofChange hibitBackSpec)

/-- ITS FALSE NEIGHBOUR: 'it returns false'. Refute it at one input. -/
def hibitBackWrong : ChangeSpec := { name := "hibitBack", fn := fun _ => fun
  | [d1, d2, d3] => { results := [.lit (.bool false)], args := [d1, d2, d3] }
  | _ => none }
def HibitBackWrongFalsely : Prop := hibitBackRow.holds Tryd.pinned (OpenSpec.ofChange hibitBackWrong)

/-- 'vivariumlaw2.HibitSame': WHATEVER THE INPUT: true; the input reads as it did. -/
def hibitSameSpec : ChangeSpec := { name := "hibitSame", fn := fun _ => fun
  | [d1, d2, d3] => { results := [.lit (.bool true)], args := [d1, d2, d3] }
  | _ => none }
def hibitSameRow : OpenClaim := { program := "ytdcihfofdjckjaadoor", sum := "9b570530d68ec29b4c22b9494757a9e52032aaabf13933db0893083ab8bfffc2", func := "vivarium/vivariumlaw2.HibitSame", spec := "hibitSame", recurses := true, named := ["math/bits.deBruijn64tab"], apart := false, laid := [("math/bits.deBruijn64tab", laid_math_bits_deBruijn64tab)] }
def HibitSameSaid : Prop := hibitSameRow.holds Tryd.pinned (OpenSpec.ofChange hibitSameSpec)

/-- ITS FALSE NEIGHBOUR: 'it returns false'. Refute it at one input. -/
def hibitSameWrong : ChangeSpec := { name := "hibitSame", fn := fun _ => fun
  | [d1, d2, d3] => { results := [.lit (.bool false)], args := [d1, d2, d3] }
  | _ => none }
def HibitSameWrongFalsely : Prop := hibitSameRow.holds Tryd.pinned (OpenSpec.ofChange hibitSameWrong)

/-- 'vivariumlaw2.HibitPlays': WHATEVER THE INPUT: true; the input reads as it did. -/
def hibitPlaysSpec : ChangeSpec := { name := "hibitPlays", fn := fun _ => fun
  | [d1, d2, d3, d4, d5, d6] => { results := [.lit (.bool true)], args := [d1, d2, d3, d4, d5, d6] }
  | _ => none }
def hibitPlaysRow : OpenClaim := { program := "ytdcihfofdjckjaadoor", sum := "9b570530d68ec29b4c22b9494757a9e52032aaabf13933db0893083ab8bfffc2", func := "vivarium/vivariumlaw2.HibitPlays", spec := "hibitPlays", recurses := true, named := ["math/bits.deBruijn64tab"], apart := false, laid := [("math/bits.deBruijn64tab", laid_math_bits_deBruijn64tab)] }
def HibitPlaysSaid : Prop := hibitPlaysRow.holds Tryd.pinned (OpenSpec.ofChange hibitPlaysSpec)

/-- ITS FALSE NEIGHBOUR: 'it returns false'. Refute it at one input. -/
def hibitPlaysWrong : ChangeSpec := { name := "hibitPlays", fn := fun _ => fun
  | [d1, d2, d3, d4, d5, d6] => { results := [.lit (.bool false)], args := [d1, d2, d3, d4, d5, d6] }
  | _ => none }
def HibitPlaysWrongFalsely : Prop := hibitPlaysRow.holds Tryd.pinned (OpenSpec.ofChange hibitPlaysWrong)

/- THE SECOND FORM. 'bulk': how many values and letters a reading holds, each counted each time it is reached (what is shared counts as often as it is met; a slice's spare places count too). A statement '..UptoSaid' is the law's where the arguments, and the package variables that the reading takes, are together of bulk at most 1048576: NARROWER than '..Said'. Prove '..Said' where nothing that the law and all that it calls make is longer than what came in: it says more and counts as full. Else prove '..UptoSaid'. A law counts once. -/
mutual
def uptoBulk {H : Type} : DataW H → Nat
  | .lit (.string bytes) => bytes.length + 1
  | .lit _ => 1
  | .nil => 1
  | .ptr d => uptoBulk d + 1
  | .slice elems spare => uptoBulkAll elems + uptoBulkAll spare + 1
  | .agg parts => uptoBulkAll parts + 1
  | .iface _ d => uptoBulk d + 1
  | .map entries => uptoBulkEntries entries + 1
  | .held _ => 1
def uptoBulkAll {H : Type} : List (DataW H) → Nat
  | [] => 0
  | d :: r => uptoBulk d + uptoBulkAll r
def uptoBulkEntries {H : Type} : List (Lit × DataW H) → Nat
  | [] => 0
  | x :: r => uptoBulkEntry x + uptoBulkEntries r
def uptoBulkEntry {H : Type} : Lit × DataW H → Nat
  | (.string bytes, d) => bytes.length + uptoBulk d + 1
  | (_, d) => uptoBulk d + 1
 end
def uptoSmall : (H : Type) → List (DataW H) → Bool := fun _ ds => decide (uptoBulkAll ds ≤ 1048576)
def OpenSpec.upto (s : _root_.Go.ChangeSpec) : _root_.Go.OpenSpec := { _root_.Go.OpenSpec.ofChange s with cond := some uptoSmall }

/-- 'vivariumlaw2.HibitLevels', WHERE WHAT IT READS IS OF BULK AT MOST 1048576: true; the input reads as it did. -/
def hibitLevelsUptoRow : OpenClaim := { program := "ytdcihfofdjckjaadoor", sum := "9b570530d68ec29b4c22b9494757a9e52032aaabf13933db0893083ab8bfffc2", func := "vivarium/vivariumlaw2.HibitLevels", spec := "hibitLevels", recurses := true, named := ["math/bits.deBruijn64tab"], apart := false, laid := [("math/bits.deBruijn64tab", laid_math_bits_deBruijn64tab)], narrowed := true }
def HibitLevelsUptoSaid : Prop := hibitLevelsUptoRow.holds Tryd.pinned (OpenSpec.upto hibitLevelsSpec)

/-- 'vivariumlaw2.HibitLists', WHERE WHAT IT READS IS OF BULK AT MOST 1048576: true; the input reads as it did. -/
def hibitListsUptoRow : OpenClaim := { program := "ytdcihfofdjckjaadoor", sum := "9b570530d68ec29b4c22b9494757a9e52032aaabf13933db0893083ab8bfffc2", func := "vivarium/vivariumlaw2.HibitLists", spec := "hibitLists", recurses := true, named := ["math/bits.deBruijn64tab"], apart := false, laid := [("math/bits.deBruijn64tab", laid_math_bits_deBruijn64tab)], narrowed := true }
def HibitListsUptoSaid : Prop := hibitListsUptoRow.holds Tryd.pinned (OpenSpec.upto hibitListsSpec)

/-- 'vivariumlaw2.HibitFar', WHERE WHAT IT READS IS OF BULK AT MOST 1048576: true; the input reads as it did. -/
def hibitFarUptoRow : OpenClaim := { program := "ytdcihfofdjckjaadoor", sum := "9b570530d68ec29b4c22b9494757a9e52032aaabf13933db0893083ab8bfffc2", func := "vivarium/vivariumlaw2.HibitFar", spec := "hibitFar", recurses := true, named := ["math/bits.deBruijn64tab"], apart := false, laid := [("math/bits.deBruijn64tab", laid_math_bits_deBruijn64tab)], narrowed := true }
def HibitFarUptoSaid : Prop := hibitFarUptoRow.holds Tryd.pinned (OpenSpec.upto hibitFarSpec)

/-- 'vivariumlaw2.HibitBack', WHERE WHAT IT READS IS OF BULK AT MOST 1048576: true; the input reads as it did. -/
def hibitBackUptoRow : OpenClaim := { program := "ytdcihfofdjckjaadoor", sum := "9b570530d68ec29b4c22b9494757a9e52032aaabf13933db0893083ab8bfffc2", func := "vivarium/vivariumlaw2.HibitBack", spec := "hibitBack", recurses := true, named := ["math/bits.deBruijn64tab"], apart := false, laid := [("math/bits.deBruijn64tab", laid_math_bits_deBruijn64tab)], narrowed := true }
def HibitBackUptoSaid : Prop := hibitBackUptoRow.holds Tryd.pinned (OpenSpec.upto hibitBackSpec)

/-- 'vivariumlaw2.HibitSame', WHERE WHAT IT READS IS OF BULK AT MOST 1048576: true; the input reads as it did. -/
def hibitSameUptoRow : OpenClaim := { program := "ytdcihfofdjckjaadoor", sum := "9b570530d68ec29b4c22b9494757a9e52032aaabf13933db0893083ab8bfffc2", func := "vivarium/vivariumlaw2.HibitSame", spec := "hibitSame", recurses := true, named := ["math/bits.deBruijn64tab"], apart := false, laid := [("math/bits.deBruijn64tab", laid_math_bits_deBruijn64tab)], narrowed := true }
def HibitSameUptoSaid : Prop := hibitSameUptoRow.holds Tryd.pinned (OpenSpec.upto hibitSameSpec)

/-- 'vivariumlaw2.HibitPlays', WHERE WHAT IT READS IS OF BULK AT MOST 1048576: true; the input reads as it did. -/
def hibitPlaysUptoRow : OpenClaim := { program := "ytdcihfofdjckjaadoor", sum := "9b570530d68ec29b4c22b9494757a9e52032aaabf13933db0893083ab8bfffc2", func := "vivarium/vivariumlaw2.HibitPlays", spec := "hibitPlays", recurses := true, named := ["math/bits.deBruijn64tab"], apart := false, laid := [("math/bits.deBruijn64tab", laid_math_bits_deBruijn64tab)], narrowed := true }
def HibitPlaysUptoSaid : Prop := hibitPlaysUptoRow.holds Tryd.pinned (OpenSpec.upto hibitPlaysSpec)

end Rows
end Go.Proofs.YtdcihfofdjckjaaDoor
