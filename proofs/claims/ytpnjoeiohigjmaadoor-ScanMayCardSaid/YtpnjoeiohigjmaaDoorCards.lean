/-
  DERIVED. GIVEN WITH THE SEED: THE CARDS: each row of YtpnjoeiohigjmaaDoorRows.lean that lists a variable, with what it lists TIED to the program's text (the seventh form; the later family's looks); each row that meets fmt, with fmt's text TOLD by the authors' own Lean function (tested against real Go, not proved from fmt's source: count such statements apart). THE CARD IS WHAT COUNTS. Prove the row's statement (the work); the ties are given (YtpnjoeiohigjmaaDoorTie.lean); close each card by the builder's one call (the guide's Derived/Test/ToyasCard.lean, 'card_holds'). Laid BY PROGRAM, IN A SANDBOX (cutbox-door.mjs). By AI agents, Wed Nov 11 2026. No macro, syntax, notation, axiom, sorry.
-/
import Derived.Test.YtpnjoeiohigjmaaDoorRows
import GoSem.ClaimSeven
namespace Go.Proofs.YtpnjoeiohigjmaaDoor
namespace Rows

/-- THE TIED CARD OF 'vivariumlaw4.ScanBounds'. -/
def scanBoundsCard : Claim7 := { stood := { row := scanBoundsRow, standIns := [], harness := (true, "00c2c237034565ef67202ee282eaa60c1101ee672e816134092266610617fd99"), looks := false }, kinds := [], alts := [], laidByText := true, laidKinds := [.data], laidTests := true, laidLooks := .later }
def ScanBoundsCardSaid : Prop := Claim7.holds Tryd.pinned (.plain (OpenSpec.ofChange scanBoundsSpec)) scanBoundsCard

/-- THE TIED CARD OF 'vivariumlaw4.ScanJoins'. -/
def scanJoinsCard : Claim7 := { stood := { row := scanJoinsRow, standIns := [], harness := (true, "00c2c237034565ef67202ee282eaa60c1101ee672e816134092266610617fd99"), looks := false }, kinds := [], alts := [], laidByText := true, laidKinds := [.data], laidTests := true, laidLooks := .later }
def ScanJoinsCardSaid : Prop := Claim7.holds Tryd.pinned (.plain (OpenSpec.ofChange scanJoinsSpec)) scanJoinsCard

/-- THE TIED CARD OF 'vivariumlaw4.ScanWords'. -/
def scanWordsCard : Claim7 := { stood := { row := scanWordsRow, standIns := [], harness := (true, "00c2c237034565ef67202ee282eaa60c1101ee672e816134092266610617fd99"), looks := false }, kinds := [], alts := [], laidByText := true, laidKinds := [.data], laidTests := true, laidLooks := .later }
def ScanWordsCardSaid : Prop := Claim7.holds Tryd.pinned (.plain (OpenSpec.ofChange scanWordsSpec)) scanWordsCard

/-- THE TIED CARD OF 'vivariumlaw4.ScanMay'. -/
def scanMayCard : Claim7 := { stood := { row := scanMayRow, standIns := [], harness := (true, "00c2c237034565ef67202ee282eaa60c1101ee672e816134092266610617fd99"), looks := false }, kinds := [], alts := [], laidByText := true, laidKinds := [.data], laidTests := true, laidLooks := .later }
def ScanMayCardSaid : Prop := Claim7.holds Tryd.pinned (.plain (OpenSpec.ofChange scanMaySpec)) scanMayCard

/-- THE TIED CARD OF 'vivariumlaw4.ScanCounts'. -/
def scanCountsCard : Claim7 := { stood := { row := scanCountsRow, standIns := [], harness := (true, "00c2c237034565ef67202ee282eaa60c1101ee672e816134092266610617fd99"), looks := false }, kinds := [], alts := [], laidByText := true, laidKinds := [.data], laidTests := true, laidLooks := .later }
def ScanCountsCardSaid : Prop := Claim7.holds Tryd.pinned (.plain (OpenSpec.ofChange scanCountsSpec)) scanCountsCard

/-- THE TIED CARD OF 'vivariumlaw4.ScanTells'. -/
def scanTellsCard : Claim7 := { stood := { row := scanTellsRow, standIns := [], harness := (true, "00c2c237034565ef67202ee282eaa60c1101ee672e816134092266610617fd99"), looks := false }, kinds := [], alts := [], laidByText := true, laidKinds := [.data], laidTests := true, laidLooks := .later }
def ScanTellsCardSaid : Prop := Claim7.holds Tryd.pinned (.plain (OpenSpec.ofChange scanTellsSpec)) scanTellsCard

/-- THE TIED CARD OF 'vivariumlaw4.ScanGoes'. -/
def scanGoesCard : Claim7 := { stood := { row := scanGoesRow, standIns := [], harness := (true, "00c2c237034565ef67202ee282eaa60c1101ee672e816134092266610617fd99"), looks := false }, kinds := [], alts := [], laidByText := true, laidKinds := [.data], laidTests := true, laidLooks := .later }
def ScanGoesCardSaid : Prop := Claim7.holds Tryd.pinned (.plain (OpenSpec.ofChange scanGoesSpec)) scanGoesCard

/-- THE SECOND FORM's CARD OF 'vivariumlaw4.ScanBounds'. -/
def scanBoundsUptoCard : Claim7 := { stood := { row := scanBoundsUptoRow, standIns := [], harness := (true, "00c2c237034565ef67202ee282eaa60c1101ee672e816134092266610617fd99"), looks := false }, kinds := [], alts := [], laidByText := true, laidKinds := [.data], laidTests := true, laidLooks := .later }
def ScanBoundsUptoCardSaid : Prop := Claim7.holds Tryd.pinned (.plain (OpenSpec.upto scanBoundsSpec)) scanBoundsUptoCard

/-- THE SECOND FORM's CARD OF 'vivariumlaw4.ScanJoins'. -/
def scanJoinsUptoCard : Claim7 := { stood := { row := scanJoinsUptoRow, standIns := [], harness := (true, "00c2c237034565ef67202ee282eaa60c1101ee672e816134092266610617fd99"), looks := false }, kinds := [], alts := [], laidByText := true, laidKinds := [.data], laidTests := true, laidLooks := .later }
def ScanJoinsUptoCardSaid : Prop := Claim7.holds Tryd.pinned (.plain (OpenSpec.upto scanJoinsSpec)) scanJoinsUptoCard

/-- THE SECOND FORM's CARD OF 'vivariumlaw4.ScanWords'. -/
def scanWordsUptoCard : Claim7 := { stood := { row := scanWordsUptoRow, standIns := [], harness := (true, "00c2c237034565ef67202ee282eaa60c1101ee672e816134092266610617fd99"), looks := false }, kinds := [], alts := [], laidByText := true, laidKinds := [.data], laidTests := true, laidLooks := .later }
def ScanWordsUptoCardSaid : Prop := Claim7.holds Tryd.pinned (.plain (OpenSpec.upto scanWordsSpec)) scanWordsUptoCard

/-- THE SECOND FORM's CARD OF 'vivariumlaw4.ScanMay'. -/
def scanMayUptoCard : Claim7 := { stood := { row := scanMayUptoRow, standIns := [], harness := (true, "00c2c237034565ef67202ee282eaa60c1101ee672e816134092266610617fd99"), looks := false }, kinds := [], alts := [], laidByText := true, laidKinds := [.data], laidTests := true, laidLooks := .later }
def ScanMayUptoCardSaid : Prop := Claim7.holds Tryd.pinned (.plain (OpenSpec.upto scanMaySpec)) scanMayUptoCard

/-- THE SECOND FORM's CARD OF 'vivariumlaw4.ScanCounts'. -/
def scanCountsUptoCard : Claim7 := { stood := { row := scanCountsUptoRow, standIns := [], harness := (true, "00c2c237034565ef67202ee282eaa60c1101ee672e816134092266610617fd99"), looks := false }, kinds := [], alts := [], laidByText := true, laidKinds := [.data], laidTests := true, laidLooks := .later }
def ScanCountsUptoCardSaid : Prop := Claim7.holds Tryd.pinned (.plain (OpenSpec.upto scanCountsSpec)) scanCountsUptoCard

/-- THE SECOND FORM's CARD OF 'vivariumlaw4.ScanTells'. -/
def scanTellsUptoCard : Claim7 := { stood := { row := scanTellsUptoRow, standIns := [], harness := (true, "00c2c237034565ef67202ee282eaa60c1101ee672e816134092266610617fd99"), looks := false }, kinds := [], alts := [], laidByText := true, laidKinds := [.data], laidTests := true, laidLooks := .later }
def ScanTellsUptoCardSaid : Prop := Claim7.holds Tryd.pinned (.plain (OpenSpec.upto scanTellsSpec)) scanTellsUptoCard

/-- THE SECOND FORM's CARD OF 'vivariumlaw4.ScanGoes'. -/
def scanGoesUptoCard : Claim7 := { stood := { row := scanGoesUptoRow, standIns := [], harness := (true, "00c2c237034565ef67202ee282eaa60c1101ee672e816134092266610617fd99"), looks := false }, kinds := [], alts := [], laidByText := true, laidKinds := [.data], laidTests := true, laidLooks := .later }
def ScanGoesUptoCardSaid : Prop := Claim7.holds Tryd.pinned (.plain (OpenSpec.upto scanGoesSpec)) scanGoesUptoCard
end Rows
end Go.Proofs.YtpnjoeiohigjmaaDoor
