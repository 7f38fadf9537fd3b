/-
  DERIVED. GIVEN WITH THE SEED: THE CARDS: each row of YtiafdlofcjbllaaGreatDoorRows.lean that lists a variable, with what it lists TIED to the program's text (the seventh form; the later family's looks); each row that meets fmt, with fmt's text TOLD by the authors' own Lean function (tested against real Go, not proved from fmt's source: count such statements apart). THE CARD IS WHAT COUNTS. Prove the row's statement (the work); the ties are given (YtiafdlofcjbllaaGreatDoorTie.lean); close each card by the builder's one call (the guide's Derived/Test/ToyasCard.lean, 'card_holds'). Laid BY PROGRAM, IN A SANDBOX (cutbox-door.mjs). By AI agents, Wed Nov 11 2026. No macro, syntax, notation, axiom, sorry.
-/
import Derived.Test.YtiafdlofcjbllaaGreatDoorRows
import GoSem.ClaimSeven
namespace Go.Proofs.YtiafdlofcjbllaaGreatDoor
namespace Rows

/-- THE TIED CARD OF 'vivariumlaw15.EntPlays'. -/
def entPlaysCard : Claim7 := { stood := { row := entPlaysRow, standIns := [], harness := (true, "9f11e9f84d2a1f3525546b85dd619f209ef9eb7f7908876cb512a6ddc6dcf8e1"), looks := false }, kinds := [], alts := [], laidByText := true, laidKinds := [.data], laidTests := true, laidLooks := .later }
def EntPlaysCardSaid : Prop := Claim7.holds Tryz.pinned (.plain (OpenSpec.ofChange entPlaysSpec)) entPlaysCard

/-- THE TIED CARD OF 'vivariumlaw16.WorldArgs'. -/
def worldArgsCard : Claim7 := { stood := { row := worldArgsRow, standIns := [], harness := (true, "9f11e9f84d2a1f3525546b85dd619f209ef9eb7f7908876cb512a6ddc6dcf8e1"), looks := false }, kinds := [], alts := [], laidByText := true, laidKinds := [.data], laidTests := true, laidLooks := .later }
def WorldArgsCardSaid : Prop := Claim7.holds Tryz.pinned (.plain (OpenSpec.ofChange worldArgsSpec)) worldArgsCard

/-- THE TIED CARD OF 'vivariumlaw16.WorldBounds'. -/
def worldBoundsCard : Claim7 := { stood := { row := worldBoundsRow, standIns := [], harness := (true, "9f11e9f84d2a1f3525546b85dd619f209ef9eb7f7908876cb512a6ddc6dcf8e1"), looks := false }, kinds := [], alts := [], laidByText := true, laidKinds := [.data], laidTests := true, laidLooks := .later }
def WorldBoundsCardSaid : Prop := Claim7.holds Tryz.pinned (.plain (OpenSpec.ofChange worldBoundsSpec)) worldBoundsCard

/-- THE TIED CARD OF 'vivariumlaw16.WorldFolds'. -/
def worldFoldsCard : Claim7 := { stood := { row := worldFoldsRow, standIns := [], harness := (true, "9f11e9f84d2a1f3525546b85dd619f209ef9eb7f7908876cb512a6ddc6dcf8e1"), looks := false }, kinds := [], alts := [], laidByText := true, laidKinds := [.data], laidTests := true, laidLooks := .later }
def WorldFoldsCardSaid : Prop := Claim7.holds Tryz.pinned (.plain (OpenSpec.ofChange worldFoldsSpec)) worldFoldsCard

/-- THE TIED CARD OF 'vivariumlaw16.WorldReaders'. -/
def worldReadersCard : Claim7 := { stood := { row := worldReadersRow, standIns := [], harness := (true, "9f11e9f84d2a1f3525546b85dd619f209ef9eb7f7908876cb512a6ddc6dcf8e1"), looks := false }, kinds := [], alts := [], laidByText := true, laidKinds := [.data], laidTests := true, laidLooks := .later }
def WorldReadersCardSaid : Prop := Claim7.holds Tryz.pinned (.plain (OpenSpec.ofChange worldReadersSpec)) worldReadersCard

/-- THE TIED CARD OF 'vivariumlaw16.WorldStale'. -/
def worldStaleCard : Claim7 := { stood := { row := worldStaleRow, standIns := [], harness := (true, "9f11e9f84d2a1f3525546b85dd619f209ef9eb7f7908876cb512a6ddc6dcf8e1"), looks := false }, kinds := [], alts := [], laidByText := true, laidKinds := [.data], laidTests := true, laidLooks := .later }
def WorldStaleCardSaid : Prop := Claim7.holds Tryz.pinned (.plain (OpenSpec.ofChange worldStaleSpec)) worldStaleCard

/-- THE TIED CARD OF 'vivariumlaw16.WorldNotes'. -/
def worldNotesCard : Claim7 := { stood := { row := worldNotesRow, standIns := [], harness := (true, "9f11e9f84d2a1f3525546b85dd619f209ef9eb7f7908876cb512a6ddc6dcf8e1"), looks := false }, kinds := [], alts := [], laidByText := true, laidKinds := [.data], laidTests := true, laidLooks := .later }
def WorldNotesCardSaid : Prop := Claim7.holds Tryz.pinned (.plain (OpenSpec.ofChange worldNotesSpec)) worldNotesCard

/-- THE TIED CARD OF 'vivariumlaw16.WorldOne'. -/
def worldOneCard : Claim7 := { stood := { row := worldOneRow, standIns := [], harness := (true, "9f11e9f84d2a1f3525546b85dd619f209ef9eb7f7908876cb512a6ddc6dcf8e1"), looks := false }, kinds := [], alts := [], laidByText := true, laidKinds := [.data], laidTests := true, laidLooks := .later }
def WorldOneCardSaid : Prop := Claim7.holds Tryz.pinned (.plain (OpenSpec.ofChange worldOneSpec)) worldOneCard

/-- THE TIED CARD OF 'vivariumlaw16.WorldHeld'. -/
def worldHeldCard : Claim7 := { stood := { row := worldHeldRow, standIns := [], harness := (true, "9f11e9f84d2a1f3525546b85dd619f209ef9eb7f7908876cb512a6ddc6dcf8e1"), looks := false }, kinds := [], alts := [], laidByText := true, laidKinds := [.data], laidTests := true, laidLooks := .later }
def WorldHeldCardSaid : Prop := Claim7.holds Tryz.pinned (.plain (OpenSpec.ofChange worldHeldSpec)) worldHeldCard

/-- THE TIED CARD OF 'vivariumlaw16.WorldPlays'. -/
def worldPlaysCard : Claim7 := { stood := { row := worldPlaysRow, standIns := [], harness := (true, "9f11e9f84d2a1f3525546b85dd619f209ef9eb7f7908876cb512a6ddc6dcf8e1"), looks := false }, kinds := [], alts := [], laidByText := true, laidKinds := [.data], laidTests := true, laidLooks := .later }
def WorldPlaysCardSaid : Prop := Claim7.holds Tryz.pinned (.plain (OpenSpec.ofChange worldPlaysSpec)) worldPlaysCard

/-- THE SECOND FORM's CARD OF 'vivariumlaw15.EntPlays'. -/
def entPlaysUptoCard : Claim7 := { stood := { row := entPlaysUptoRow, standIns := [], harness := (true, "9f11e9f84d2a1f3525546b85dd619f209ef9eb7f7908876cb512a6ddc6dcf8e1"), looks := false }, kinds := [], alts := [], laidByText := true, laidKinds := [.data], laidTests := true, laidLooks := .later }
def EntPlaysUptoCardSaid : Prop := Claim7.holds Tryz.pinned (.plain (OpenSpec.upto entPlaysSpec)) entPlaysUptoCard

/-- THE SECOND FORM's CARD OF 'vivariumlaw16.WorldArgs'. -/
def worldArgsUptoCard : Claim7 := { stood := { row := worldArgsUptoRow, standIns := [], harness := (true, "9f11e9f84d2a1f3525546b85dd619f209ef9eb7f7908876cb512a6ddc6dcf8e1"), looks := false }, kinds := [], alts := [], laidByText := true, laidKinds := [.data], laidTests := true, laidLooks := .later }
def WorldArgsUptoCardSaid : Prop := Claim7.holds Tryz.pinned (.plain (OpenSpec.upto worldArgsSpec)) worldArgsUptoCard

/-- THE SECOND FORM's CARD OF 'vivariumlaw16.WorldBounds'. -/
def worldBoundsUptoCard : Claim7 := { stood := { row := worldBoundsUptoRow, standIns := [], harness := (true, "9f11e9f84d2a1f3525546b85dd619f209ef9eb7f7908876cb512a6ddc6dcf8e1"), looks := false }, kinds := [], alts := [], laidByText := true, laidKinds := [.data], laidTests := true, laidLooks := .later }
def WorldBoundsUptoCardSaid : Prop := Claim7.holds Tryz.pinned (.plain (OpenSpec.upto worldBoundsSpec)) worldBoundsUptoCard

/-- THE SECOND FORM's CARD OF 'vivariumlaw16.WorldFolds'. -/
def worldFoldsUptoCard : Claim7 := { stood := { row := worldFoldsUptoRow, standIns := [], harness := (true, "9f11e9f84d2a1f3525546b85dd619f209ef9eb7f7908876cb512a6ddc6dcf8e1"), looks := false }, kinds := [], alts := [], laidByText := true, laidKinds := [.data], laidTests := true, laidLooks := .later }
def WorldFoldsUptoCardSaid : Prop := Claim7.holds Tryz.pinned (.plain (OpenSpec.upto worldFoldsSpec)) worldFoldsUptoCard

/-- THE SECOND FORM's CARD OF 'vivariumlaw16.WorldReaders'. -/
def worldReadersUptoCard : Claim7 := { stood := { row := worldReadersUptoRow, standIns := [], harness := (true, "9f11e9f84d2a1f3525546b85dd619f209ef9eb7f7908876cb512a6ddc6dcf8e1"), looks := false }, kinds := [], alts := [], laidByText := true, laidKinds := [.data], laidTests := true, laidLooks := .later }
def WorldReadersUptoCardSaid : Prop := Claim7.holds Tryz.pinned (.plain (OpenSpec.upto worldReadersSpec)) worldReadersUptoCard

/-- THE SECOND FORM's CARD OF 'vivariumlaw16.WorldStale'. -/
def worldStaleUptoCard : Claim7 := { stood := { row := worldStaleUptoRow, standIns := [], harness := (true, "9f11e9f84d2a1f3525546b85dd619f209ef9eb7f7908876cb512a6ddc6dcf8e1"), looks := false }, kinds := [], alts := [], laidByText := true, laidKinds := [.data], laidTests := true, laidLooks := .later }
def WorldStaleUptoCardSaid : Prop := Claim7.holds Tryz.pinned (.plain (OpenSpec.upto worldStaleSpec)) worldStaleUptoCard

/-- THE SECOND FORM's CARD OF 'vivariumlaw16.WorldNotes'. -/
def worldNotesUptoCard : Claim7 := { stood := { row := worldNotesUptoRow, standIns := [], harness := (true, "9f11e9f84d2a1f3525546b85dd619f209ef9eb7f7908876cb512a6ddc6dcf8e1"), looks := false }, kinds := [], alts := [], laidByText := true, laidKinds := [.data], laidTests := true, laidLooks := .later }
def WorldNotesUptoCardSaid : Prop := Claim7.holds Tryz.pinned (.plain (OpenSpec.upto worldNotesSpec)) worldNotesUptoCard

/-- THE SECOND FORM's CARD OF 'vivariumlaw16.WorldOne'. -/
def worldOneUptoCard : Claim7 := { stood := { row := worldOneUptoRow, standIns := [], harness := (true, "9f11e9f84d2a1f3525546b85dd619f209ef9eb7f7908876cb512a6ddc6dcf8e1"), looks := false }, kinds := [], alts := [], laidByText := true, laidKinds := [.data], laidTests := true, laidLooks := .later }
def WorldOneUptoCardSaid : Prop := Claim7.holds Tryz.pinned (.plain (OpenSpec.upto worldOneSpec)) worldOneUptoCard

/-- THE SECOND FORM's CARD OF 'vivariumlaw16.WorldHeld'. -/
def worldHeldUptoCard : Claim7 := { stood := { row := worldHeldUptoRow, standIns := [], harness := (true, "9f11e9f84d2a1f3525546b85dd619f209ef9eb7f7908876cb512a6ddc6dcf8e1"), looks := false }, kinds := [], alts := [], laidByText := true, laidKinds := [.data], laidTests := true, laidLooks := .later }
def WorldHeldUptoCardSaid : Prop := Claim7.holds Tryz.pinned (.plain (OpenSpec.upto worldHeldSpec)) worldHeldUptoCard

/-- THE SECOND FORM's CARD OF 'vivariumlaw16.WorldPlays'. -/
def worldPlaysUptoCard : Claim7 := { stood := { row := worldPlaysUptoRow, standIns := [], harness := (true, "9f11e9f84d2a1f3525546b85dd619f209ef9eb7f7908876cb512a6ddc6dcf8e1"), looks := false }, kinds := [], alts := [], laidByText := true, laidKinds := [.data], laidTests := true, laidLooks := .later }
def WorldPlaysUptoCardSaid : Prop := Claim7.holds Tryz.pinned (.plain (OpenSpec.upto worldPlaysSpec)) worldPlaysUptoCard
end Rows
end Go.Proofs.YtiafdlofcjbllaaGreatDoor
