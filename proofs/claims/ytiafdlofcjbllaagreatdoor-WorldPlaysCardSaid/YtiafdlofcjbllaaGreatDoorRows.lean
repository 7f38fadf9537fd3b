/-
  NARROWER THAN 'FOR EVERY INPUT', by the rows' own cells (each row's printed sentence says how): EntPlays: laid · WorldArgs: laid · WorldBounds: laid · WorldFolds: laid · WorldReaders: laid · WorldStale: laid · WorldNotes: laid · WorldOne: laid · WorldHeld: laid · WorldPlays: laid.
  DERIVED. THE GIVEN ROWS OF THIS SEAT. 10 by the template 'for every input the law returns true; each argument reads behind the call as it read before'; 0 by the template 'total and deterministic' (their statements: YtiafdlofcjbllaaGreatDoorTotals.lean).
  GIVEN WITH THE SEED: the statements are not yours to turn. If you find one false, say at which input.
  Laid BY PROGRAM, IN A SANDBOX (cutbox-rows.mjs): the forced cells as the released guide's own fill.sh prints them over the translation c07f46fd0f585562… (all of the seat's roots in one cut). By AI agents, Wed Nov 11 2026. No macro, syntax, notation, axiom, sorry.
-/
import Derived.Test.YtiafdlofcjbllaaGreatDoorChecked
import GoSem.Claim
import GoSem.ClaimJoined
import GoSem.ClaimMapViews
import Derived.JoinedTies
import Derived.KernelRfl
namespace Go.Proofs.YtiafdlofcjbllaaGreatDoor
/- THE CELL 'sum', in the pinned program and in every row, IS THE sha256 OF THE DUMP (.gsa) THAT YtiafdlofcjbllaaGreatDoorProg.lean LOADS. Nothing in Lean hashes anything: it is a label: what it is worth is what the hold of that sum in a sandbox is worth. -/
noncomputable def Tryz.pinned : Pinned := { name := "ytiafdlofcjbllaagreatdoor", sum := "c07f46fd0f585562ed8b24c55b2eebaff0633d74f6b0fb9e0650fb37f3d74b8d", checked := Tryz.checked }
namespace Rows
def none {H : Type} : Left H := { results := [], args := [] }

/- WHAT THE LISTED PACKAGE-LEVEL VARIABLES READ AS WHEN THE CALL BEGINS. Each datum BY PROGRAM (the guide's laid-datum.mjs) off the statement by which the dump's own 'gosem.cut.vars' lays the variable. In a bare row this is a premise. The card (YtiafdlofcjbllaaGreatDoorCards.lean) ties it to the program's text. -/
def laid_math_bits_deBruijn64tab {H : Type} : DataW H := .agg [.lit (.int .u8 0), .lit (.int .u8 1), .lit (.int .u8 56), .lit (.int .u8 2), .lit (.int .u8 57), .lit (.int .u8 49), .lit (.int .u8 28), .lit (.int .u8 3), .lit (.int .u8 61), .lit (.int .u8 58), .lit (.int .u8 42), .lit (.int .u8 50), .lit (.int .u8 38), .lit (.int .u8 29), .lit (.int .u8 17), .lit (.int .u8 4), .lit (.int .u8 62), .lit (.int .u8 47), .lit (.int .u8 59), .lit (.int .u8 36), .lit (.int .u8 45), .lit (.int .u8 43), .lit (.int .u8 51), .lit (.int .u8 22), .lit (.int .u8 53), .lit (.int .u8 39), .lit (.int .u8 33), .lit (.int .u8 30), .lit (.int .u8 24), .lit (.int .u8 18), .lit (.int .u8 12), .lit (.int .u8 5), .lit (.int .u8 63), .lit (.int .u8 55), .lit (.int .u8 48), .lit (.int .u8 27), .lit (.int .u8 60), .lit (.int .u8 41), .lit (.int .u8 37), .lit (.int .u8 16), .lit (.int .u8 46), .lit (.int .u8 35), .lit (.int .u8 44), .lit (.int .u8 21), .lit (.int .u8 52), .lit (.int .u8 32), .lit (.int .u8 23), .lit (.int .u8 11), .lit (.int .u8 54), .lit (.int .u8 26), .lit (.int .u8 40), .lit (.int .u8 15), .lit (.int .u8 34), .lit (.int .u8 20), .lit (.int .u8 31), .lit (.int .u8 10), .lit (.int .u8 25), .lit (.int .u8 14), .lit (.int .u8 19), .lit (.int .u8 9), .lit (.int .u8 13), .lit (.int .u8 8), .lit (.int .u8 7), .lit (.int .u8 6)]

/-- 'vivariumlaw15.EntPlays': WHATEVER THE INPUT: true; the input reads as it did. -/
def entPlaysSpec : ChangeSpec := { name := "entPlays", fn := fun _ => fun
  | [d1, d2, d3, d4] => { results := [.lit (.bool true)], args := [d1, d2, d3, d4] }
  | _ => none }
def entPlaysRow : OpenClaim := { program := "ytiafdlofcjbllaagreatdoor", sum := "c07f46fd0f585562ed8b24c55b2eebaff0633d74f6b0fb9e0650fb37f3d74b8d", func := "vivarium/vivariumlaw15.EntPlays", spec := "entPlays", unfollowed := true, recurses := true, named := ["math/bits.deBruijn64tab"], apart := false, laid := [("math/bits.deBruijn64tab", laid_math_bits_deBruijn64tab)] }
def EntPlaysSaid : Prop := entPlaysRow.holds Tryz.pinned (OpenSpec.ofChange entPlaysSpec)

/-- ITS FALSE NEIGHBOUR: 'it returns false'. Refute it at one input. -/
def entPlaysWrong : ChangeSpec := { name := "entPlays", fn := fun _ => fun
  | [d1, d2, d3, d4] => { results := [.lit (.bool false)], args := [d1, d2, d3, d4] }
  | _ => none }
def EntPlaysWrongFalsely : Prop := entPlaysRow.holds Tryz.pinned (OpenSpec.ofChange entPlaysWrong)

/-- 'vivariumlaw16.WorldArgs': WHATEVER THE INPUT: true; the input reads as it did. -/
def worldArgsSpec : ChangeSpec := { name := "worldArgs", fn := fun _ => fun
  | [d] => { results := [.lit (.bool true)], args := [d] }
  | _ => none }
def worldArgsRow : OpenClaim := { program := "ytiafdlofcjbllaagreatdoor", sum := "c07f46fd0f585562ed8b24c55b2eebaff0633d74f6b0fb9e0650fb37f3d74b8d", func := "vivarium/vivariumlaw16.WorldArgs", spec := "worldArgs", unfollowed := true, recurses := true, named := ["math/bits.deBruijn64tab"], apart := false, laid := [("math/bits.deBruijn64tab", laid_math_bits_deBruijn64tab)] }
def WorldArgsSaid : Prop := worldArgsRow.holds Tryz.pinned (OpenSpec.ofChange worldArgsSpec)

/-- ITS FALSE NEIGHBOUR: 'it returns false'. Refute it at one input. -/
def worldArgsWrong : ChangeSpec := { name := "worldArgs", fn := fun _ => fun
  | [d] => { results := [.lit (.bool false)], args := [d] }
  | _ => none }
def WorldArgsWrongFalsely : Prop := worldArgsRow.holds Tryz.pinned (OpenSpec.ofChange worldArgsWrong)

/-- 'vivariumlaw16.WorldBounds': WHATEVER THE INPUT: true; the input reads as it did. -/
def worldBoundsSpec : ChangeSpec := { name := "worldBounds", fn := fun _ => fun
  | [d1, d2] => { results := [.lit (.bool true)], args := [d1, d2] }
  | _ => none }
def worldBoundsRow : OpenClaim := { program := "ytiafdlofcjbllaagreatdoor", sum := "c07f46fd0f585562ed8b24c55b2eebaff0633d74f6b0fb9e0650fb37f3d74b8d", func := "vivarium/vivariumlaw16.WorldBounds", spec := "worldBounds", unfollowed := true, recurses := true, named := ["math/bits.deBruijn64tab"], apart := false, laid := [("math/bits.deBruijn64tab", laid_math_bits_deBruijn64tab)] }
def WorldBoundsSaid : Prop := worldBoundsRow.holds Tryz.pinned (OpenSpec.ofChange worldBoundsSpec)

/-- ITS FALSE NEIGHBOUR: 'it returns false'. Refute it at one input. -/
def worldBoundsWrong : ChangeSpec := { name := "worldBounds", fn := fun _ => fun
  | [d1, d2] => { results := [.lit (.bool false)], args := [d1, d2] }
  | _ => none }
def WorldBoundsWrongFalsely : Prop := worldBoundsRow.holds Tryz.pinned (OpenSpec.ofChange worldBoundsWrong)

/-- 'vivariumlaw16.WorldFolds': WHATEVER THE INPUT: true; the input reads as it did. -/
def worldFoldsSpec : ChangeSpec := { name := "worldFolds", fn := fun _ => fun
  | [d1, d2] => { results := [.lit (.bool true)], args := [d1, d2] }
  | _ => none }
def worldFoldsRow : OpenClaim := { program := "ytiafdlofcjbllaagreatdoor", sum := "c07f46fd0f585562ed8b24c55b2eebaff0633d74f6b0fb9e0650fb37f3d74b8d", func := "vivarium/vivariumlaw16.WorldFolds", spec := "worldFolds", unfollowed := true, recurses := true, named := ["math/bits.deBruijn64tab"], apart := false, laid := [("math/bits.deBruijn64tab", laid_math_bits_deBruijn64tab)] }
def WorldFoldsSaid : Prop := worldFoldsRow.holds Tryz.pinned (OpenSpec.ofChange worldFoldsSpec)

/-- ITS FALSE NEIGHBOUR: 'it returns false'. Refute it at one input. -/
def worldFoldsWrong : ChangeSpec := { name := "worldFolds", fn := fun _ => fun
  | [d1, d2] => { results := [.lit (.bool false)], args := [d1, d2] }
  | _ => none }
def WorldFoldsWrongFalsely : Prop := worldFoldsRow.holds Tryz.pinned (OpenSpec.ofChange worldFoldsWrong)

/-- 'vivariumlaw16.WorldReaders': WHATEVER THE INPUT: true; the input reads as it did. -/
def worldReadersSpec : ChangeSpec := { name := "worldReaders", fn := fun _ => fun
  | [d1, d2, d3] => { results := [.lit (.bool true)], args := [d1, d2, d3] }
  | _ => none }
def worldReadersRow : OpenClaim := { program := "ytiafdlofcjbllaagreatdoor", sum := "c07f46fd0f585562ed8b24c55b2eebaff0633d74f6b0fb9e0650fb37f3d74b8d", func := "vivarium/vivariumlaw16.WorldReaders", spec := "worldReaders", unfollowed := true, recurses := true, named := ["math/bits.deBruijn64tab"], apart := false, laid := [("math/bits.deBruijn64tab", laid_math_bits_deBruijn64tab)] }
def WorldReadersSaid : Prop := worldReadersRow.holds Tryz.pinned (OpenSpec.ofChange worldReadersSpec)

/-- ITS FALSE NEIGHBOUR: 'it returns false'. Refute it at one input. -/
def worldReadersWrong : ChangeSpec := { name := "worldReaders", fn := fun _ => fun
  | [d1, d2, d3] => { results := [.lit (.bool false)], args := [d1, d2, d3] }
  | _ => none }
def WorldReadersWrongFalsely : Prop := worldReadersRow.holds Tryz.pinned (OpenSpec.ofChange worldReadersWrong)

/-- 'vivariumlaw16.WorldStale': WHATEVER THE INPUT: true; the input reads as it did. -/
def worldStaleSpec : ChangeSpec := { name := "worldStale", fn := fun _ => fun
  | [d1, d2, d3, d4] => { results := [.lit (.bool true)], args := [d1, d2, d3, d4] }
  | _ => none }
def worldStaleRow : OpenClaim := { program := "ytiafdlofcjbllaagreatdoor", sum := "c07f46fd0f585562ed8b24c55b2eebaff0633d74f6b0fb9e0650fb37f3d74b8d", func := "vivarium/vivariumlaw16.WorldStale", spec := "worldStale", unfollowed := true, recurses := true, named := ["math/bits.deBruijn64tab"], apart := false, laid := [("math/bits.deBruijn64tab", laid_math_bits_deBruijn64tab)] }
def WorldStaleSaid : Prop := worldStaleRow.holds Tryz.pinned (OpenSpec.ofChange worldStaleSpec)

/-- ITS FALSE NEIGHBOUR: 'it returns false'. Refute it at one input. -/
def worldStaleWrong : ChangeSpec := { name := "worldStale", fn := fun _ => fun
  | [d1, d2, d3, d4] => { results := [.lit (.bool false)], args := [d1, d2, d3, d4] }
  | _ => none }
def WorldStaleWrongFalsely : Prop := worldStaleRow.holds Tryz.pinned (OpenSpec.ofChange worldStaleWrong)

/-- 'vivariumlaw16.WorldNotes': WHATEVER THE INPUT: true; the input reads as it did. -/
def worldNotesSpec : ChangeSpec := { name := "worldNotes", fn := fun _ => fun
  | [d1, d2, d3] => { results := [.lit (.bool true)], args := [d1, d2, d3] }
  | _ => none }
def worldNotesRow : OpenClaim := { program := "ytiafdlofcjbllaagreatdoor", sum := "c07f46fd0f585562ed8b24c55b2eebaff0633d74f6b0fb9e0650fb37f3d74b8d", func := "vivarium/vivariumlaw16.WorldNotes", spec := "worldNotes", unfollowed := true, recurses := true, named := ["math/bits.deBruijn64tab"], apart := false, laid := [("math/bits.deBruijn64tab", laid_math_bits_deBruijn64tab)] }
def WorldNotesSaid : Prop := worldNotesRow.holds Tryz.pinned (OpenSpec.ofChange worldNotesSpec)

/-- ITS FALSE NEIGHBOUR: 'it returns false'. Refute it at one input. -/
def worldNotesWrong : ChangeSpec := { name := "worldNotes", fn := fun _ => fun
  | [d1, d2, d3] => { results := [.lit (.bool false)], args := [d1, d2, d3] }
  | _ => none }
def WorldNotesWrongFalsely : Prop := worldNotesRow.holds Tryz.pinned (OpenSpec.ofChange worldNotesWrong)

/-- 'vivariumlaw16.WorldOne': WHATEVER THE INPUT: true; the input reads as it did. -/
def worldOneSpec : ChangeSpec := { name := "worldOne", fn := fun _ => fun
  | [d] => { results := [.lit (.bool true)], args := [d] }
  | _ => none }
def worldOneRow : OpenClaim := { program := "ytiafdlofcjbllaagreatdoor", sum := "c07f46fd0f585562ed8b24c55b2eebaff0633d74f6b0fb9e0650fb37f3d74b8d", func := "vivarium/vivariumlaw16.WorldOne", spec := "worldOne", unfollowed := true, recurses := true, named := ["math/bits.deBruijn64tab"], apart := false, laid := [("math/bits.deBruijn64tab", laid_math_bits_deBruijn64tab)] }
def WorldOneSaid : Prop := worldOneRow.holds Tryz.pinned (OpenSpec.ofChange worldOneSpec)

/-- ITS FALSE NEIGHBOUR: 'it returns false'. Refute it at one input. -/
def worldOneWrong : ChangeSpec := { name := "worldOne", fn := fun _ => fun
  | [d] => { results := [.lit (.bool false)], args := [d] }
  | _ => none }
def WorldOneWrongFalsely : Prop := worldOneRow.holds Tryz.pinned (OpenSpec.ofChange worldOneWrong)

/-- 'vivariumlaw16.WorldHeld': WHATEVER THE INPUT: true; the input reads as it did. -/
def worldHeldSpec : ChangeSpec := { name := "worldHeld", fn := fun _ => fun
  | [d1, d2] => { results := [.lit (.bool true)], args := [d1, d2] }
  | _ => none }
def worldHeldRow : OpenClaim := { program := "ytiafdlofcjbllaagreatdoor", sum := "c07f46fd0f585562ed8b24c55b2eebaff0633d74f6b0fb9e0650fb37f3d74b8d", func := "vivarium/vivariumlaw16.WorldHeld", spec := "worldHeld", unfollowed := true, recurses := true, named := ["math/bits.deBruijn64tab"], apart := false, laid := [("math/bits.deBruijn64tab", laid_math_bits_deBruijn64tab)] }
def WorldHeldSaid : Prop := worldHeldRow.holds Tryz.pinned (OpenSpec.ofChange worldHeldSpec)

/-- ITS FALSE NEIGHBOUR: 'it returns false'. Refute it at one input. -/
def worldHeldWrong : ChangeSpec := { name := "worldHeld", fn := fun _ => fun
  | [d1, d2] => { results := [.lit (.bool false)], args := [d1, d2] }
  | _ => none }
def WorldHeldWrongFalsely : Prop := worldHeldRow.holds Tryz.pinned (OpenSpec.ofChange worldHeldWrong)

/-- 'vivariumlaw16.WorldPlays': WHATEVER THE INPUT: true; the input reads as it did. -/
def worldPlaysSpec : ChangeSpec := { name := "worldPlays", fn := fun _ => fun
  | [d1, d2, d3, d4] => { results := [.lit (.bool true)], args := [d1, d2, d3, d4] }
  | _ => none }
def worldPlaysRow : OpenClaim := { program := "ytiafdlofcjbllaagreatdoor", sum := "c07f46fd0f585562ed8b24c55b2eebaff0633d74f6b0fb9e0650fb37f3d74b8d", func := "vivarium/vivariumlaw16.WorldPlays", spec := "worldPlays", unfollowed := true, recurses := true, named := ["math/bits.deBruijn64tab"], apart := false, laid := [("math/bits.deBruijn64tab", laid_math_bits_deBruijn64tab)] }
def WorldPlaysSaid : Prop := worldPlaysRow.holds Tryz.pinned (OpenSpec.ofChange worldPlaysSpec)

/-- ITS FALSE NEIGHBOUR: 'it returns false'. Refute it at one input. -/
def worldPlaysWrong : ChangeSpec := { name := "worldPlays", fn := fun _ => fun
  | [d1, d2, d3, d4] => { results := [.lit (.bool false)], args := [d1, d2, d3, d4] }
  | _ => none }
def WorldPlaysWrongFalsely : Prop := worldPlaysRow.holds Tryz.pinned (OpenSpec.ofChange worldPlaysWrong)

/- THE SECOND FORM. 'bulk': how many values and letters a reading holds, each counted each time it is reached (what is shared counts as often as it is met; a slice's spare places count too). A statement '..UptoSaid' is the law's where the arguments, and the package variables that the reading takes, are together of bulk at most 1048576: NARROWER than '..Said'. Prove '..Said' where nothing that the law and all that it calls make is longer than what came in: it says more and counts as full. Else prove '..UptoSaid'. A law counts once. -/
mutual
def uptoBulk {H : Type} : DataW H → Nat
  | .lit (.string bytes) => bytes.length + 1
  | .lit _ => 1
  | .nil => 1
  | .ptr d => uptoBulk d + 1
  | .slice elems spare => uptoBulkAll elems + uptoBulkAll spare + 1
  | .agg parts => uptoBulkAll parts + 1
  | .iface _ d => uptoBulk d + 1
  | .map entries => uptoBulkEntries entries + 1
  | .held _ => 1
def uptoBulkAll {H : Type} : List (DataW H) → Nat
  | [] => 0
  | d :: r => uptoBulk d + uptoBulkAll r
def uptoBulkEntries {H : Type} : List (Lit × DataW H) → Nat
  | [] => 0
  | x :: r => uptoBulkEntry x + uptoBulkEntries r
def uptoBulkEntry {H : Type} : Lit × DataW H → Nat
  | (.string bytes, d) => bytes.length + uptoBulk d + 1
  | (_, d) => uptoBulk d + 1
 end
def uptoSmall : (H : Type) → List (DataW H) → Bool := fun _ ds => decide (uptoBulkAll ds ≤ 1048576)
def OpenSpec.upto (s : _root_.Go.ChangeSpec) : _root_.Go.OpenSpec := { _root_.Go.OpenSpec.ofChange s with cond := some uptoSmall }

/-- 'vivariumlaw15.EntPlays', WHERE WHAT IT READS IS OF BULK AT MOST 1048576: true; the input reads as it did. -/
def entPlaysUptoRow : OpenClaim := { program := "ytiafdlofcjbllaagreatdoor", sum := "c07f46fd0f585562ed8b24c55b2eebaff0633d74f6b0fb9e0650fb37f3d74b8d", func := "vivarium/vivariumlaw15.EntPlays", spec := "entPlays", unfollowed := true, recurses := true, named := ["math/bits.deBruijn64tab"], apart := false, laid := [("math/bits.deBruijn64tab", laid_math_bits_deBruijn64tab)], narrowed := true }
def EntPlaysUptoSaid : Prop := entPlaysUptoRow.holds Tryz.pinned (OpenSpec.upto entPlaysSpec)

/-- 'vivariumlaw16.WorldArgs', WHERE WHAT IT READS IS OF BULK AT MOST 1048576: true; the input reads as it did. -/
def worldArgsUptoRow : OpenClaim := { program := "ytiafdlofcjbllaagreatdoor", sum := "c07f46fd0f585562ed8b24c55b2eebaff0633d74f6b0fb9e0650fb37f3d74b8d", func := "vivarium/vivariumlaw16.WorldArgs", spec := "worldArgs", unfollowed := true, recurses := true, named := ["math/bits.deBruijn64tab"], apart := false, laid := [("math/bits.deBruijn64tab", laid_math_bits_deBruijn64tab)], narrowed := true }
def WorldArgsUptoSaid : Prop := worldArgsUptoRow.holds Tryz.pinned (OpenSpec.upto worldArgsSpec)

/-- 'vivariumlaw16.WorldBounds', WHERE WHAT IT READS IS OF BULK AT MOST 1048576: true; the input reads as it did. -/
def worldBoundsUptoRow : OpenClaim := { program := "ytiafdlofcjbllaagreatdoor", sum := "c07f46fd0f585562ed8b24c55b2eebaff0633d74f6b0fb9e0650fb37f3d74b8d", func := "vivarium/vivariumlaw16.WorldBounds", spec := "worldBounds", unfollowed := true, recurses := true, named := ["math/bits.deBruijn64tab"], apart := false, laid := [("math/bits.deBruijn64tab", laid_math_bits_deBruijn64tab)], narrowed := true }
def WorldBoundsUptoSaid : Prop := worldBoundsUptoRow.holds Tryz.pinned (OpenSpec.upto worldBoundsSpec)

/-- 'vivariumlaw16.WorldFolds', WHERE WHAT IT READS IS OF BULK AT MOST 1048576: true; the input reads as it did. -/
def worldFoldsUptoRow : OpenClaim := { program := "ytiafdlofcjbllaagreatdoor", sum := "c07f46fd0f585562ed8b24c55b2eebaff0633d74f6b0fb9e0650fb37f3d74b8d", func := "vivarium/vivariumlaw16.WorldFolds", spec := "worldFolds", unfollowed := true, recurses := true, named := ["math/bits.deBruijn64tab"], apart := false, laid := [("math/bits.deBruijn64tab", laid_math_bits_deBruijn64tab)], narrowed := true }
def WorldFoldsUptoSaid : Prop := worldFoldsUptoRow.holds Tryz.pinned (OpenSpec.upto worldFoldsSpec)

/-- 'vivariumlaw16.WorldReaders', WHERE WHAT IT READS IS OF BULK AT MOST 1048576: true; the input reads as it did. -/
def worldReadersUptoRow : OpenClaim := { program := "ytiafdlofcjbllaagreatdoor", sum := "c07f46fd0f585562ed8b24c55b2eebaff0633d74f6b0fb9e0650fb37f3d74b8d", func := "vivarium/vivariumlaw16.WorldReaders", spec := "worldReaders", unfollowed := true, recurses := true, named := ["math/bits.deBruijn64tab"], apart := false, laid := [("math/bits.deBruijn64tab", laid_math_bits_deBruijn64tab)], narrowed := true }
def WorldReadersUptoSaid : Prop := worldReadersUptoRow.holds Tryz.pinned (OpenSpec.upto worldReadersSpec)

/-- 'vivariumlaw16.WorldStale', WHERE WHAT IT READS IS OF BULK AT MOST 1048576: true; the input reads as it did. -/
def worldStaleUptoRow : OpenClaim := { program := "ytiafdlofcjbllaagreatdoor", sum := "c07f46fd0f585562ed8b24c55b2eebaff0633d74f6b0fb9e0650fb37f3d74b8d", func := "vivarium/vivariumlaw16.WorldStale", spec := "worldStale", unfollowed := true, recurses := true, named := ["math/bits.deBruijn64tab"], apart := false, laid := [("math/bits.deBruijn64tab", laid_math_bits_deBruijn64tab)], narrowed := true }
def WorldStaleUptoSaid : Prop := worldStaleUptoRow.holds Tryz.pinned (OpenSpec.upto worldStaleSpec)

/-- 'vivariumlaw16.WorldNotes', WHERE WHAT IT READS IS OF BULK AT MOST 1048576: true; the input reads as it did. -/
def worldNotesUptoRow : OpenClaim := { program := "ytiafdlofcjbllaagreatdoor", sum := "c07f46fd0f585562ed8b24c55b2eebaff0633d74f6b0fb9e0650fb37f3d74b8d", func := "vivarium/vivariumlaw16.WorldNotes", spec := "worldNotes", unfollowed := true, recurses := true, named := ["math/bits.deBruijn64tab"], apart := false, laid := [("math/bits.deBruijn64tab", laid_math_bits_deBruijn64tab)], narrowed := true }
def WorldNotesUptoSaid : Prop := worldNotesUptoRow.holds Tryz.pinned (OpenSpec.upto worldNotesSpec)

/-- 'vivariumlaw16.WorldOne', WHERE WHAT IT READS IS OF BULK AT MOST 1048576: true; the input reads as it did. -/
def worldOneUptoRow : OpenClaim := { program := "ytiafdlofcjbllaagreatdoor", sum := "c07f46fd0f585562ed8b24c55b2eebaff0633d74f6b0fb9e0650fb37f3d74b8d", func := "vivarium/vivariumlaw16.WorldOne", spec := "worldOne", unfollowed := true, recurses := true, named := ["math/bits.deBruijn64tab"], apart := false, laid := [("math/bits.deBruijn64tab", laid_math_bits_deBruijn64tab)], narrowed := true }
def WorldOneUptoSaid : Prop := worldOneUptoRow.holds Tryz.pinned (OpenSpec.upto worldOneSpec)

/-- 'vivariumlaw16.WorldHeld', WHERE WHAT IT READS IS OF BULK AT MOST 1048576: true; the input reads as it did. -/
def worldHeldUptoRow : OpenClaim := { program := "ytiafdlofcjbllaagreatdoor", sum := "c07f46fd0f585562ed8b24c55b2eebaff0633d74f6b0fb9e0650fb37f3d74b8d", func := "vivarium/vivariumlaw16.WorldHeld", spec := "worldHeld", unfollowed := true, recurses := true, named := ["math/bits.deBruijn64tab"], apart := false, laid := [("math/bits.deBruijn64tab", laid_math_bits_deBruijn64tab)], narrowed := true }
def WorldHeldUptoSaid : Prop := worldHeldUptoRow.holds Tryz.pinned (OpenSpec.upto worldHeldSpec)

/-- 'vivariumlaw16.WorldPlays', WHERE WHAT IT READS IS OF BULK AT MOST 1048576: true; the input reads as it did. -/
def worldPlaysUptoRow : OpenClaim := { program := "ytiafdlofcjbllaagreatdoor", sum := "c07f46fd0f585562ed8b24c55b2eebaff0633d74f6b0fb9e0650fb37f3d74b8d", func := "vivarium/vivariumlaw16.WorldPlays", spec := "worldPlays", unfollowed := true, recurses := true, named := ["math/bits.deBruijn64tab"], apart := false, laid := [("math/bits.deBruijn64tab", laid_math_bits_deBruijn64tab)], narrowed := true }
def WorldPlaysUptoSaid : Prop := worldPlaysUptoRow.holds Tryz.pinned (OpenSpec.upto worldPlaysSpec)

end Rows
end Go.Proofs.YtiafdlofcjbllaaGreatDoor
