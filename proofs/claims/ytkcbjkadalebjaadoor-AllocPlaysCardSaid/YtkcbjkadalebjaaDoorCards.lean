/-
  DERIVED. GIVEN WITH THE SEED: THE CARDS: each row of YtkcbjkadalebjaaDoorRows.lean that lists a variable, with what it lists TIED to the program's text (the seventh form; the later family's looks); each row that meets fmt, with fmt's text TOLD by the authors' own Lean function (tested against real Go, not proved from fmt's source: count such statements apart). THE CARD IS WHAT COUNTS. Prove the row's statement (the work); the ties are given (YtkcbjkadalebjaaDoorTie.lean); close each card by the builder's one call (the guide's Derived/Test/ToyasCard.lean, 'card_holds'). Laid BY PROGRAM, IN A SANDBOX (cutbox-door.mjs). By AI agents, Wed Nov 11 2026. No macro, syntax, notation, axiom, sorry.
-/
import Derived.Test.YtkcbjkadalebjaaDoorRows
import GoSem.ClaimSeven
namespace Go.Proofs.YtkcbjkadalebjaaDoor
namespace Rows

/-- THE TIED CARD OF 'vivariumlaw5.AllocOnce'. -/
def allocOnceCard : Claim7 := { stood := { row := allocOnceRow, standIns := [], harness := (true, "01cbcd863d74e65785c0735fcac848daf36a4005d99c070f0b4d0952db3daa68"), looks := false }, kinds := [], alts := [], laidByText := true, laidKinds := [.data], laidTests := true, laidLooks := .later }
def AllocOnceCardSaid : Prop := Claim7.holds Tryd.pinned (.plain (OpenSpec.ofChange allocOnceSpec)) allocOnceCard

/-- THE TIED CARD OF 'vivariumlaw5.AllocLeast'. -/
def allocLeastCard : Claim7 := { stood := { row := allocLeastRow, standIns := [], harness := (true, "01cbcd863d74e65785c0735fcac848daf36a4005d99c070f0b4d0952db3daa68"), looks := false }, kinds := [], alts := [], laidByText := true, laidKinds := [.data], laidTests := true, laidLooks := .later }
def AllocLeastCardSaid : Prop := Claim7.holds Tryd.pinned (.plain (OpenSpec.ofChange allocLeastSpec)) allocLeastCard

/-- THE TIED CARD OF 'vivariumlaw5.AllocSpends'. -/
def allocSpendsCard : Claim7 := { stood := { row := allocSpendsRow, standIns := [], harness := (true, "01cbcd863d74e65785c0735fcac848daf36a4005d99c070f0b4d0952db3daa68"), looks := false }, kinds := [], alts := [], laidByText := true, laidKinds := [.data], laidTests := true, laidLooks := .later }
def AllocSpendsCardSaid : Prop := Claim7.holds Tryd.pinned (.plain (OpenSpec.ofChange allocSpendsSpec)) allocSpendsCard

/-- THE TIED CARD OF 'vivariumlaw5.AllocRaised'. -/
def allocRaisedCard : Claim7 := { stood := { row := allocRaisedRow, standIns := [], harness := (true, "01cbcd863d74e65785c0735fcac848daf36a4005d99c070f0b4d0952db3daa68"), looks := false }, kinds := [], alts := [], laidByText := true, laidKinds := [.data], laidTests := true, laidLooks := .later }
def AllocRaisedCardSaid : Prop := Claim7.holds Tryd.pinned (.plain (OpenSpec.ofChange allocRaisedSpec)) allocRaisedCard

/-- THE TIED CARD OF 'vivariumlaw5.AllocPlays'. -/
def allocPlaysCard : Claim7 := { stood := { row := allocPlaysRow, standIns := [], harness := (true, "01cbcd863d74e65785c0735fcac848daf36a4005d99c070f0b4d0952db3daa68"), looks := false }, kinds := [], alts := [], laidByText := true, laidKinds := [.data], laidTests := true, laidLooks := .later }
def AllocPlaysCardSaid : Prop := Claim7.holds Tryd.pinned (.plain (OpenSpec.ofChange allocPlaysSpec)) allocPlaysCard

/-- THE SECOND FORM's CARD OF 'vivariumlaw5.AllocOnce'. -/
def allocOnceUptoCard : Claim7 := { stood := { row := allocOnceUptoRow, standIns := [], harness := (true, "01cbcd863d74e65785c0735fcac848daf36a4005d99c070f0b4d0952db3daa68"), looks := false }, kinds := [], alts := [], laidByText := true, laidKinds := [.data], laidTests := true, laidLooks := .later }
def AllocOnceUptoCardSaid : Prop := Claim7.holds Tryd.pinned (.plain (OpenSpec.upto allocOnceSpec)) allocOnceUptoCard

/-- THE SECOND FORM's CARD OF 'vivariumlaw5.AllocLeast'. -/
def allocLeastUptoCard : Claim7 := { stood := { row := allocLeastUptoRow, standIns := [], harness := (true, "01cbcd863d74e65785c0735fcac848daf36a4005d99c070f0b4d0952db3daa68"), looks := false }, kinds := [], alts := [], laidByText := true, laidKinds := [.data], laidTests := true, laidLooks := .later }
def AllocLeastUptoCardSaid : Prop := Claim7.holds Tryd.pinned (.plain (OpenSpec.upto allocLeastSpec)) allocLeastUptoCard

/-- THE SECOND FORM's CARD OF 'vivariumlaw5.AllocSpends'. -/
def allocSpendsUptoCard : Claim7 := { stood := { row := allocSpendsUptoRow, standIns := [], harness := (true, "01cbcd863d74e65785c0735fcac848daf36a4005d99c070f0b4d0952db3daa68"), looks := false }, kinds := [], alts := [], laidByText := true, laidKinds := [.data], laidTests := true, laidLooks := .later }
def AllocSpendsUptoCardSaid : Prop := Claim7.holds Tryd.pinned (.plain (OpenSpec.upto allocSpendsSpec)) allocSpendsUptoCard

/-- THE SECOND FORM's CARD OF 'vivariumlaw5.AllocRaised'. -/
def allocRaisedUptoCard : Claim7 := { stood := { row := allocRaisedUptoRow, standIns := [], harness := (true, "01cbcd863d74e65785c0735fcac848daf36a4005d99c070f0b4d0952db3daa68"), looks := false }, kinds := [], alts := [], laidByText := true, laidKinds := [.data], laidTests := true, laidLooks := .later }
def AllocRaisedUptoCardSaid : Prop := Claim7.holds Tryd.pinned (.plain (OpenSpec.upto allocRaisedSpec)) allocRaisedUptoCard

/-- THE SECOND FORM's CARD OF 'vivariumlaw5.AllocPlays'. -/
def allocPlaysUptoCard : Claim7 := { stood := { row := allocPlaysUptoRow, standIns := [], harness := (true, "01cbcd863d74e65785c0735fcac848daf36a4005d99c070f0b4d0952db3daa68"), looks := false }, kinds := [], alts := [], laidByText := true, laidKinds := [.data], laidTests := true, laidLooks := .later }
def AllocPlaysUptoCardSaid : Prop := Claim7.holds Tryd.pinned (.plain (OpenSpec.upto allocPlaysSpec)) allocPlaysUptoCard
end Rows
end Go.Proofs.YtkcbjkadalebjaaDoor
