/-
  No cell of these rows narrows 'for every input' (looked for: loops, veiled, ifaces, maps, wideKeys, modest, calm, conditions, laid).
  DERIVED. THE GIVEN ROWS OF THIS SEAT. 7 by the template 'for every input the law returns true; each argument reads behind the call as it read before'; 0 by the template 'total and deterministic' (their statements: YtmdjpeblbnbjmaaTotals.lean).
  GIVEN WITH THE SEED: the statements are not yours to turn. If you find one false, say at which input.
  Laid BY PROGRAM, IN A SANDBOX (cutbox-rows.mjs): the forced cells as the released guide's own fill.sh prints them over the translation c3f18208792d0d77… (all of the seat's roots in one cut). By AI agents, Wed Nov 11 2026. No macro, syntax, notation, axiom, sorry.
-/
import Derived.Test.YtmdjpeblbnbjmaaChecked
import GoSem.Claim
import GoSem.ClaimJoined
import GoSem.ClaimMapViews
import Derived.JoinedTies
import Derived.KernelRfl
namespace Go.Proofs.Ytmdjpeblbnbjmaa
/- THE CELL 'sum', in the pinned program and in every row, IS THE sha256 OF THE DUMP (.gsa) THAT YtmdjpeblbnbjmaaProg.lean LOADS. Nothing in Lean hashes anything: it is a label: what it is worth is what the hold of that sum in a sandbox is worth. -/
noncomputable def Try.pinned : Pinned := { name := "ytmdjpeblbnbjmaa", sum := "c3f18208792d0d776d3e17fa4bb55975f948418543980346745cebaa0b38695c", checked := Try.checked }
namespace Rows
def none {H : Type} : Left H := { results := [], args := [] }

/-- 'vivariumlaw12.RegBounds': WHATEVER THE INPUT: true; the input reads as it did. -/
def regBoundsSpec : ChangeSpec := { name := "regBounds", fn := fun _ => fun
  | [d] => { results := [.lit (.bool true)], args := [d] }
  | _ => none }
def regBoundsRow : OpenClaim := { program := "ytmdjpeblbnbjmaa", sum := "c3f18208792d0d776d3e17fa4bb55975f948418543980346745cebaa0b38695c", func := "vivarium/vivariumlaw12.RegBounds", spec := "regBounds", unfollowed := true, recurses := true, apart := false }
def RegBoundsSaid : Prop := regBoundsRow.holds Try.pinned (OpenSpec.ofChange regBoundsSpec)

/-- ITS FALSE NEIGHBOUR: 'it returns false'. Refute it at one input. -/
def regBoundsWrong : ChangeSpec := { name := "regBounds", fn := fun _ => fun
  | [d] => { results := [.lit (.bool false)], args := [d] }
  | _ => none }
def RegBoundsWrongFalsely : Prop := regBoundsRow.holds Try.pinned (OpenSpec.ofChange regBoundsWrong)

/-- 'vivariumlaw11.SlotBounds': WHATEVER THE INPUT: true; the input reads as it did. -/
def slotBoundsSpec : ChangeSpec := { name := "slotBounds", fn := fun _ => fun
  | [d1, d2, d3] => { results := [.lit (.bool true)], args := [d1, d2, d3] }
  | _ => none }
def slotBoundsRow : OpenClaim := { program := "ytmdjpeblbnbjmaa", sum := "c3f18208792d0d776d3e17fa4bb55975f948418543980346745cebaa0b38695c", func := "vivarium/vivariumlaw11.SlotBounds", spec := "slotBounds", unfollowed := true, recurses := true, apart := false }
def SlotBoundsSaid : Prop := slotBoundsRow.holds Try.pinned (OpenSpec.ofChange slotBoundsSpec)

/-- ITS FALSE NEIGHBOUR: 'it returns false'. Refute it at one input. -/
def slotBoundsWrong : ChangeSpec := { name := "slotBounds", fn := fun _ => fun
  | [d1, d2, d3] => { results := [.lit (.bool false)], args := [d1, d2, d3] }
  | _ => none }
def SlotBoundsWrongFalsely : Prop := slotBoundsRow.holds Try.pinned (OpenSpec.ofChange slotBoundsWrong)

/-- 'vivariumlaw12.RegPlays': WHATEVER THE INPUT: true; the input reads as it did. -/
def regPlaysSpec : ChangeSpec := { name := "regPlays", fn := fun _ => fun
  | [d1, d2, d3, d4] => { results := [.lit (.bool true)], args := [d1, d2, d3, d4] }
  | _ => none }
def regPlaysRow : OpenClaim := { program := "ytmdjpeblbnbjmaa", sum := "c3f18208792d0d776d3e17fa4bb55975f948418543980346745cebaa0b38695c", func := "vivarium/vivariumlaw12.RegPlays", spec := "regPlays", unfollowed := true, recurses := true, apart := false }
def RegPlaysSaid : Prop := regPlaysRow.holds Try.pinned (OpenSpec.ofChange regPlaysSpec)

/-- ITS FALSE NEIGHBOUR: 'it returns false'. Refute it at one input. -/
def regPlaysWrong : ChangeSpec := { name := "regPlays", fn := fun _ => fun
  | [d1, d2, d3, d4] => { results := [.lit (.bool false)], args := [d1, d2, d3, d4] }
  | _ => none }
def RegPlaysWrongFalsely : Prop := regPlaysRow.holds Try.pinned (OpenSpec.ofChange regPlaysWrong)

/-- 'vivariumlaw11.SlotBack': WHATEVER THE INPUT: true; the input reads as it did. -/
def slotBackSpec : ChangeSpec := { name := "slotBack", fn := fun _ => fun
  | [d1, d2, d3, d4, d5, d6] => { results := [.lit (.bool true)], args := [d1, d2, d3, d4, d5, d6] }
  | _ => none }
def slotBackRow : OpenClaim := { program := "ytmdjpeblbnbjmaa", sum := "c3f18208792d0d776d3e17fa4bb55975f948418543980346745cebaa0b38695c", func := "vivarium/vivariumlaw11.SlotBack", spec := "slotBack", unfollowed := true, recurses := true, apart := false }
def SlotBackSaid : Prop := slotBackRow.holds Try.pinned (OpenSpec.ofChange slotBackSpec)

/-- ITS FALSE NEIGHBOUR: 'it returns false'. Refute it at one input. -/
def slotBackWrong : ChangeSpec := { name := "slotBack", fn := fun _ => fun
  | [d1, d2, d3, d4, d5, d6] => { results := [.lit (.bool false)], args := [d1, d2, d3, d4, d5, d6] }
  | _ => none }
def SlotBackWrongFalsely : Prop := slotBackRow.holds Try.pinned (OpenSpec.ofChange slotBackWrong)

/-- 'vivariumlaw11.SlotAlike': WHATEVER THE INPUT: true; the input reads as it did. -/
def slotAlikeSpec : ChangeSpec := { name := "slotAlike", fn := fun _ => fun
  | [d1, d2, d3] => { results := [.lit (.bool true)], args := [d1, d2, d3] }
  | _ => none }
def slotAlikeRow : OpenClaim := { program := "ytmdjpeblbnbjmaa", sum := "c3f18208792d0d776d3e17fa4bb55975f948418543980346745cebaa0b38695c", func := "vivarium/vivariumlaw11.SlotAlike", spec := "slotAlike", unfollowed := true, recurses := true, apart := false }
def SlotAlikeSaid : Prop := slotAlikeRow.holds Try.pinned (OpenSpec.ofChange slotAlikeSpec)

/-- ITS FALSE NEIGHBOUR: 'it returns false'. Refute it at one input. -/
def slotAlikeWrong : ChangeSpec := { name := "slotAlike", fn := fun _ => fun
  | [d1, d2, d3] => { results := [.lit (.bool false)], args := [d1, d2, d3] }
  | _ => none }
def SlotAlikeWrongFalsely : Prop := slotAlikeRow.holds Try.pinned (OpenSpec.ofChange slotAlikeWrong)

/-- 'vivariumlaw12.RegStrips': WHATEVER THE INPUT: true; the input reads as it did. -/
def regStripsSpec : ChangeSpec := { name := "regStrips", fn := fun _ => fun
  | [d1, d2, d3, d4, d5] => { results := [.lit (.bool true)], args := [d1, d2, d3, d4, d5] }
  | _ => none }
def regStripsRow : OpenClaim := { program := "ytmdjpeblbnbjmaa", sum := "c3f18208792d0d776d3e17fa4bb55975f948418543980346745cebaa0b38695c", func := "vivarium/vivariumlaw12.RegStrips", spec := "regStrips", unfollowed := true, recurses := true, apart := false }
def RegStripsSaid : Prop := regStripsRow.holds Try.pinned (OpenSpec.ofChange regStripsSpec)

/-- ITS FALSE NEIGHBOUR: 'it returns false'. Refute it at one input. -/
def regStripsWrong : ChangeSpec := { name := "regStrips", fn := fun _ => fun
  | [d1, d2, d3, d4, d5] => { results := [.lit (.bool false)], args := [d1, d2, d3, d4, d5] }
  | _ => none }
def RegStripsWrongFalsely : Prop := regStripsRow.holds Try.pinned (OpenSpec.ofChange regStripsWrong)

/-- 'vivariumlaw11.SlotNotes': WHATEVER THE INPUT: true; the input reads as it did. -/
def slotNotesSpec : ChangeSpec := { name := "slotNotes", fn := fun _ => fun
  | [d1, d2, d3] => { results := [.lit (.bool true)], args := [d1, d2, d3] }
  | _ => none }
def slotNotesRow : OpenClaim := { program := "ytmdjpeblbnbjmaa", sum := "c3f18208792d0d776d3e17fa4bb55975f948418543980346745cebaa0b38695c", func := "vivarium/vivariumlaw11.SlotNotes", spec := "slotNotes", unfollowed := true, recurses := true, apart := false }
def SlotNotesSaid : Prop := slotNotesRow.holds Try.pinned (OpenSpec.ofChange slotNotesSpec)

/-- ITS FALSE NEIGHBOUR: 'it returns false'. Refute it at one input. -/
def slotNotesWrong : ChangeSpec := { name := "slotNotes", fn := fun _ => fun
  | [d1, d2, d3] => { results := [.lit (.bool false)], args := [d1, d2, d3] }
  | _ => none }
def SlotNotesWrongFalsely : Prop := slotNotesRow.holds Try.pinned (OpenSpec.ofChange slotNotesWrong)

/- THE SECOND FORM. 'bulk': how many values and letters a reading holds, each counted each time it is reached (what is shared counts as often as it is met; a slice's spare places count too). A statement '..UptoSaid' is the law's where the arguments, and the package variables that the reading takes, are together of bulk at most 1048576: NARROWER than '..Said'. Prove '..Said' where nothing that the law and all that it calls make is longer than what came in: it says more and counts as full. Else prove '..UptoSaid'. A law counts once. -/
mutual
def uptoBulk {H : Type} : DataW H → Nat
  | .lit (.string bytes) => bytes.length + 1
  | .lit _ => 1
  | .nil => 1
  | .ptr d => uptoBulk d + 1
  | .slice elems spare => uptoBulkAll elems + uptoBulkAll spare + 1
  | .agg parts => uptoBulkAll parts + 1
  | .iface _ d => uptoBulk d + 1
  | .map entries => uptoBulkEntries entries + 1
  | .held _ => 1
def uptoBulkAll {H : Type} : List (DataW H) → Nat
  | [] => 0
  | d :: r => uptoBulk d + uptoBulkAll r
def uptoBulkEntries {H : Type} : List (Lit × DataW H) → Nat
  | [] => 0
  | x :: r => uptoBulkEntry x + uptoBulkEntries r
def uptoBulkEntry {H : Type} : Lit × DataW H → Nat
  | (.string bytes, d) => bytes.length + uptoBulk d + 1
  | (_, d) => uptoBulk d + 1
 end
def uptoSmall : (H : Type) → List (DataW H) → Bool := fun _ ds => decide (uptoBulkAll ds ≤ 1048576)
def OpenSpec.upto (s : _root_.Go.ChangeSpec) : _root_.Go.OpenSpec := { _root_.Go.OpenSpec.ofChange s with cond := some uptoSmall }

/-- 'vivariumlaw12.RegBounds', WHERE WHAT IT READS IS OF BULK AT MOST 1048576: true; the input reads as it did. -/
def regBoundsUptoRow : OpenClaim := { program := "ytmdjpeblbnbjmaa", sum := "c3f18208792d0d776d3e17fa4bb55975f948418543980346745cebaa0b38695c", func := "vivarium/vivariumlaw12.RegBounds", spec := "regBounds", unfollowed := true, recurses := true, apart := false, narrowed := true }
def RegBoundsUptoSaid : Prop := regBoundsUptoRow.holds Try.pinned (OpenSpec.upto regBoundsSpec)

/-- 'vivariumlaw11.SlotBounds', WHERE WHAT IT READS IS OF BULK AT MOST 1048576: true; the input reads as it did. -/
def slotBoundsUptoRow : OpenClaim := { program := "ytmdjpeblbnbjmaa", sum := "c3f18208792d0d776d3e17fa4bb55975f948418543980346745cebaa0b38695c", func := "vivarium/vivariumlaw11.SlotBounds", spec := "slotBounds", unfollowed := true, recurses := true, apart := false, narrowed := true }
def SlotBoundsUptoSaid : Prop := slotBoundsUptoRow.holds Try.pinned (OpenSpec.upto slotBoundsSpec)

/-- 'vivariumlaw12.RegPlays', WHERE WHAT IT READS IS OF BULK AT MOST 1048576: true; the input reads as it did. -/
def regPlaysUptoRow : OpenClaim := { program := "ytmdjpeblbnbjmaa", sum := "c3f18208792d0d776d3e17fa4bb55975f948418543980346745cebaa0b38695c", func := "vivarium/vivariumlaw12.RegPlays", spec := "regPlays", unfollowed := true, recurses := true, apart := false, narrowed := true }
def RegPlaysUptoSaid : Prop := regPlaysUptoRow.holds Try.pinned (OpenSpec.upto regPlaysSpec)

/-- 'vivariumlaw11.SlotBack', WHERE WHAT IT READS IS OF BULK AT MOST 1048576: true; the input reads as it did. -/
def slotBackUptoRow : OpenClaim := { program := "ytmdjpeblbnbjmaa", sum := "c3f18208792d0d776d3e17fa4bb55975f948418543980346745cebaa0b38695c", func := "vivarium/vivariumlaw11.SlotBack", spec := "slotBack", unfollowed := true, recurses := true, apart := false, narrowed := true }
def SlotBackUptoSaid : Prop := slotBackUptoRow.holds Try.pinned (OpenSpec.upto slotBackSpec)

/-- 'vivariumlaw11.SlotAlike', WHERE WHAT IT READS IS OF BULK AT MOST 1048576: true; the input reads as it did. -/
def slotAlikeUptoRow : OpenClaim := { program := "ytmdjpeblbnbjmaa", sum := "c3f18208792d0d776d3e17fa4bb55975f948418543980346745cebaa0b38695c", func := "vivarium/vivariumlaw11.SlotAlike", spec := "slotAlike", unfollowed := true, recurses := true, apart := false, narrowed := true }
def SlotAlikeUptoSaid : Prop := slotAlikeUptoRow.holds Try.pinned (OpenSpec.upto slotAlikeSpec)

/-- 'vivariumlaw12.RegStrips', WHERE WHAT IT READS IS OF BULK AT MOST 1048576: true; the input reads as it did. -/
def regStripsUptoRow : OpenClaim := { program := "ytmdjpeblbnbjmaa", sum := "c3f18208792d0d776d3e17fa4bb55975f948418543980346745cebaa0b38695c", func := "vivarium/vivariumlaw12.RegStrips", spec := "regStrips", unfollowed := true, recurses := true, apart := false, narrowed := true }
def RegStripsUptoSaid : Prop := regStripsUptoRow.holds Try.pinned (OpenSpec.upto regStripsSpec)

/-- 'vivariumlaw11.SlotNotes', WHERE WHAT IT READS IS OF BULK AT MOST 1048576: true; the input reads as it did. -/
def slotNotesUptoRow : OpenClaim := { program := "ytmdjpeblbnbjmaa", sum := "c3f18208792d0d776d3e17fa4bb55975f948418543980346745cebaa0b38695c", func := "vivarium/vivariumlaw11.SlotNotes", spec := "slotNotes", unfollowed := true, recurses := true, apart := false, narrowed := true }
def SlotNotesUptoSaid : Prop := slotNotesUptoRow.holds Try.pinned (OpenSpec.upto slotNotesSpec)

end Rows
end Go.Proofs.Ytmdjpeblbnbjmaa
