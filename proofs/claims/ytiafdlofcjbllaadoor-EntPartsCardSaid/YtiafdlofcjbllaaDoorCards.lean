/-
  DERIVED. GIVEN WITH THE SEED: THE CARDS: each row of YtiafdlofcjbllaaDoorRows.lean that lists a variable, with what it lists TIED to the program's text (the seventh form; the later family's looks); each row that meets fmt, with fmt's text TOLD by the authors' own Lean function (tested against real Go, not proved from fmt's source: count such statements apart). THE CARD IS WHAT COUNTS. Prove the row's statement (the work); the ties are given (YtiafdlofcjbllaaDoorTie.lean); close each card by the builder's one call (the guide's Derived/Test/ToyasCard.lean, 'card_holds'). Laid BY PROGRAM, IN A SANDBOX (cutbox-door.mjs). By AI agents, Wed Nov 11 2026. No macro, syntax, notation, axiom, sorry.
-/
import Derived.Test.YtiafdlofcjbllaaDoorRows
import GoSem.ClaimSeven
namespace Go.Proofs.YtiafdlofcjbllaaDoor
namespace Rows

/-- THE TIED CARD OF 'vivariumlaw15.EntArgs'. -/
def entArgsCard : Claim7 := { stood := { row := entArgsRow, standIns := [], harness := (true, "07c49f25849f70ebfc9243bfa2d7a24d465d8422ca2c7409e1744e5aff3bbfc2"), looks := false }, kinds := [], alts := [], laidByText := true, laidKinds := [.data], laidTests := true, laidLooks := .later }
def EntArgsCardSaid : Prop := Claim7.holds Tryd.pinned (.plain (OpenSpec.ofChange entArgsSpec)) entArgsCard

/-- THE TIED CARD OF 'vivariumlaw15.EntParts'. -/
def entPartsCard : Claim7 := { stood := { row := entPartsRow, standIns := [], harness := (true, "07c49f25849f70ebfc9243bfa2d7a24d465d8422ca2c7409e1744e5aff3bbfc2"), looks := false }, kinds := [], alts := [], laidByText := true, laidKinds := [.data], laidTests := true, laidLooks := .later }
def EntPartsCardSaid : Prop := Claim7.holds Tryd.pinned (.plain (OpenSpec.ofChange entPartsSpec)) entPartsCard

/-- THE TIED CARD OF 'vivariumlaw15.EntApart'. -/
def entApartCard : Claim7 := { stood := { row := entApartRow, standIns := [], harness := (true, "07c49f25849f70ebfc9243bfa2d7a24d465d8422ca2c7409e1744e5aff3bbfc2"), looks := false }, kinds := [], alts := [], laidByText := true, laidKinds := [.data], laidTests := true, laidLooks := .later }
def EntApartCardSaid : Prop := Claim7.holds Tryd.pinned (.plain (OpenSpec.ofChange entApartSpec)) entApartCard

/-- THE TIED CARD OF 'vivariumlaw15.EntRaised'. -/
def entRaisedCard : Claim7 := { stood := { row := entRaisedRow, standIns := [], harness := (true, "07c49f25849f70ebfc9243bfa2d7a24d465d8422ca2c7409e1744e5aff3bbfc2"), looks := false }, kinds := [], alts := [], laidByText := true, laidKinds := [.data], laidTests := true, laidLooks := .later }
def EntRaisedCardSaid : Prop := Claim7.holds Tryd.pinned (.plain (OpenSpec.ofChange entRaisedSpec)) entRaisedCard

/-- THE SECOND FORM's CARD OF 'vivariumlaw15.EntArgs'. -/
def entArgsUptoCard : Claim7 := { stood := { row := entArgsUptoRow, standIns := [], harness := (true, "07c49f25849f70ebfc9243bfa2d7a24d465d8422ca2c7409e1744e5aff3bbfc2"), looks := false }, kinds := [], alts := [], laidByText := true, laidKinds := [.data], laidTests := true, laidLooks := .later }
def EntArgsUptoCardSaid : Prop := Claim7.holds Tryd.pinned (.plain (OpenSpec.upto entArgsSpec)) entArgsUptoCard

/-- THE SECOND FORM's CARD OF 'vivariumlaw15.EntParts'. -/
def entPartsUptoCard : Claim7 := { stood := { row := entPartsUptoRow, standIns := [], harness := (true, "07c49f25849f70ebfc9243bfa2d7a24d465d8422ca2c7409e1744e5aff3bbfc2"), looks := false }, kinds := [], alts := [], laidByText := true, laidKinds := [.data], laidTests := true, laidLooks := .later }
def EntPartsUptoCardSaid : Prop := Claim7.holds Tryd.pinned (.plain (OpenSpec.upto entPartsSpec)) entPartsUptoCard

/-- THE SECOND FORM's CARD OF 'vivariumlaw15.EntApart'. -/
def entApartUptoCard : Claim7 := { stood := { row := entApartUptoRow, standIns := [], harness := (true, "07c49f25849f70ebfc9243bfa2d7a24d465d8422ca2c7409e1744e5aff3bbfc2"), looks := false }, kinds := [], alts := [], laidByText := true, laidKinds := [.data], laidTests := true, laidLooks := .later }
def EntApartUptoCardSaid : Prop := Claim7.holds Tryd.pinned (.plain (OpenSpec.upto entApartSpec)) entApartUptoCard

/-- THE SECOND FORM's CARD OF 'vivariumlaw15.EntRaised'. -/
def entRaisedUptoCard : Claim7 := { stood := { row := entRaisedUptoRow, standIns := [], harness := (true, "07c49f25849f70ebfc9243bfa2d7a24d465d8422ca2c7409e1744e5aff3bbfc2"), looks := false }, kinds := [], alts := [], laidByText := true, laidKinds := [.data], laidTests := true, laidLooks := .later }
def EntRaisedUptoCardSaid : Prop := Claim7.holds Tryd.pinned (.plain (OpenSpec.upto entRaisedSpec)) entRaisedUptoCard
end Rows
end Go.Proofs.YtiafdlofcjbllaaDoor
