/-
  DERIVED. GIVEN WITH THE SEED: THE CARDS: each row of YtcnbmfaicbkhcaaGreatDoorRows.lean that lists a variable, with what it lists TIED to the program's text (the seventh form; the later family's looks); each row that meets fmt, with fmt's text TOLD by the authors' own Lean function (tested against real Go, not proved from fmt's source: count such statements apart). THE CARD IS WHAT COUNTS. Prove the row's statement (the work); the ties are given (YtcnbmfaicbkhcaaGreatDoorTie.lean); close each card by the builder's one call (the guide's Derived/Test/ToyasCard.lean, 'card_holds'). Laid BY PROGRAM, IN A SANDBOX (cutbox-door.mjs). By AI agents, Wed Nov 11 2026. No macro, syntax, notation, axiom, sorry.
-/
import Derived.Test.YtcnbmfaicbkhcaaGreatDoorRows
import GoSem.ClaimSeven
namespace Go.Proofs.YtcnbmfaicbkhcaaGreatDoor
namespace Rows

/-- THE TIED CARD OF 'vivariumtop.TopAgain'. -/
def topAgainCard : Claim7 := { stood := { row := topAgainRow, standIns := [], harness := (true, "9afbad9462cb40af5afcadfef94f21d5bfc2141c5b41e1acc546076ead1b1303"), looks := false }, kinds := [], alts := [], laidByText := true, laidKinds := [.data], laidTests := true, laidLooks := .later }
def TopAgainCardSaid : Prop := Claim7.holds Tryz.pinned (.plain (OpenSpec.ofChange topAgainSpec)) topAgainCard

/-- THE TIED CARD OF 'vivariumtop.TopStale'. -/
def topStaleCard : Claim7 := { stood := { row := topStaleRow, standIns := [], harness := (true, "9afbad9462cb40af5afcadfef94f21d5bfc2141c5b41e1acc546076ead1b1303"), looks := false }, kinds := [], alts := [], laidByText := true, laidKinds := [.data], laidTests := true, laidLooks := .later }
def TopStaleCardSaid : Prop := Claim7.holds Tryz.pinned (.plain (OpenSpec.ofChange topStaleSpec)) topStaleCard

/-- THE TIED CARD OF 'vivariumtop.TopSerial'. -/
def topSerialCard : Claim7 := { stood := { row := topSerialRow, standIns := [], harness := (true, "9afbad9462cb40af5afcadfef94f21d5bfc2141c5b41e1acc546076ead1b1303"), looks := false }, kinds := [], alts := [], laidByText := true, laidKinds := [.data], laidTests := true, laidLooks := .later }
def TopSerialCardSaid : Prop := Claim7.holds Tryz.pinned (.plain (OpenSpec.ofChange topSerialSpec)) topSerialCard

/-- THE TIED CARD OF 'vivariumtop.TopBounds'. -/
def topBoundsCard : Claim7 := { stood := { row := topBoundsRow, standIns := [], harness := (true, "9afbad9462cb40af5afcadfef94f21d5bfc2141c5b41e1acc546076ead1b1303"), looks := false }, kinds := [], alts := [], laidByText := true, laidKinds := [.data], laidTests := true, laidLooks := .later }
def TopBoundsCardSaid : Prop := Claim7.holds Tryz.pinned (.plain (OpenSpec.ofChange topBoundsSpec)) topBoundsCard

/-- THE SECOND FORM's CARD OF 'vivariumtop.TopAgain'. -/
def topAgainUptoCard : Claim7 := { stood := { row := topAgainUptoRow, standIns := [], harness := (true, "9afbad9462cb40af5afcadfef94f21d5bfc2141c5b41e1acc546076ead1b1303"), looks := false }, kinds := [], alts := [], laidByText := true, laidKinds := [.data], laidTests := true, laidLooks := .later }
def TopAgainUptoCardSaid : Prop := Claim7.holds Tryz.pinned (.plain (OpenSpec.upto topAgainSpec)) topAgainUptoCard

/-- THE SECOND FORM's CARD OF 'vivariumtop.TopStale'. -/
def topStaleUptoCard : Claim7 := { stood := { row := topStaleUptoRow, standIns := [], harness := (true, "9afbad9462cb40af5afcadfef94f21d5bfc2141c5b41e1acc546076ead1b1303"), looks := false }, kinds := [], alts := [], laidByText := true, laidKinds := [.data], laidTests := true, laidLooks := .later }
def TopStaleUptoCardSaid : Prop := Claim7.holds Tryz.pinned (.plain (OpenSpec.upto topStaleSpec)) topStaleUptoCard

/-- THE SECOND FORM's CARD OF 'vivariumtop.TopSerial'. -/
def topSerialUptoCard : Claim7 := { stood := { row := topSerialUptoRow, standIns := [], harness := (true, "9afbad9462cb40af5afcadfef94f21d5bfc2141c5b41e1acc546076ead1b1303"), looks := false }, kinds := [], alts := [], laidByText := true, laidKinds := [.data], laidTests := true, laidLooks := .later }
def TopSerialUptoCardSaid : Prop := Claim7.holds Tryz.pinned (.plain (OpenSpec.upto topSerialSpec)) topSerialUptoCard

/-- THE SECOND FORM's CARD OF 'vivariumtop.TopBounds'. -/
def topBoundsUptoCard : Claim7 := { stood := { row := topBoundsUptoRow, standIns := [], harness := (true, "9afbad9462cb40af5afcadfef94f21d5bfc2141c5b41e1acc546076ead1b1303"), looks := false }, kinds := [], alts := [], laidByText := true, laidKinds := [.data], laidTests := true, laidLooks := .later }
def TopBoundsUptoCardSaid : Prop := Claim7.holds Tryz.pinned (.plain (OpenSpec.upto topBoundsSpec)) topBoundsUptoCard
end Rows
end Go.Proofs.YtcnbmfaicbkhcaaGreatDoor
