/-
  DERIVED. GIVEN WITH THE SEED: THE CARDS: each row of YtdcihfofdjckjaaDoorRows.lean that lists a variable, with what it lists TIED to the program's text (the seventh form; the later family's looks); each row that meets fmt, with fmt's text TOLD by the authors' own Lean function (tested against real Go, not proved from fmt's source: count such statements apart). THE CARD IS WHAT COUNTS. Prove the row's statement (the work); the ties are given (YtdcihfofdjckjaaDoorTie.lean); close each card by the builder's one call (the guide's Derived/Test/ToyasCard.lean, 'card_holds'). Laid BY PROGRAM, IN A SANDBOX (cutbox-door.mjs). By AI agents, Wed Nov 11 2026. No macro, syntax, notation, axiom, sorry.
-/
import Derived.Test.YtdcihfofdjckjaaDoorRows
import GoSem.ClaimSeven
namespace Go.Proofs.YtdcihfofdjckjaaDoor
namespace Rows

/-- THE TIED CARD OF 'vivariumlaw2.HibitLevels'. -/
def hibitLevelsCard : Claim7 := { stood := { row := hibitLevelsRow, standIns := [], harness := (true, "959cdb3496cd32dd3b6806f8ff2a8b08ffe59a6692258fbffbca1855514e1f3f"), looks := false }, kinds := [], alts := [], laidByText := true, laidKinds := [.data], laidTests := true, laidLooks := .later }
def HibitLevelsCardSaid : Prop := Claim7.holds Tryd.pinned (.plain (OpenSpec.ofChange hibitLevelsSpec)) hibitLevelsCard

/-- THE TIED CARD OF 'vivariumlaw2.HibitLists'. -/
def hibitListsCard : Claim7 := { stood := { row := hibitListsRow, standIns := [], harness := (true, "959cdb3496cd32dd3b6806f8ff2a8b08ffe59a6692258fbffbca1855514e1f3f"), looks := false }, kinds := [], alts := [], laidByText := true, laidKinds := [.data], laidTests := true, laidLooks := .later }
def HibitListsCardSaid : Prop := Claim7.holds Tryd.pinned (.plain (OpenSpec.ofChange hibitListsSpec)) hibitListsCard

/-- THE TIED CARD OF 'vivariumlaw2.HibitFar'. -/
def hibitFarCard : Claim7 := { stood := { row := hibitFarRow, standIns := [], harness := (true, "959cdb3496cd32dd3b6806f8ff2a8b08ffe59a6692258fbffbca1855514e1f3f"), looks := false }, kinds := [], alts := [], laidByText := true, laidKinds := [.data], laidTests := true, laidLooks := .later }
def HibitFarCardSaid : Prop := Claim7.holds Tryd.pinned (.plain (OpenSpec.ofChange hibitFarSpec)) hibitFarCard

/-- THE TIED CARD OF 'vivariumlaw2.HibitBack'. -/
def hibitBackCard : Claim7 := { stood := { row := hibitBackRow, standIns := [], harness := (true, "959cdb3496cd32dd3b6806f8ff2a8b08ffe59a6692258fbffbca1855514e1f3f"), looks := false }, kinds := [], alts := [], laidByText := true, laidKinds := [.data], laidTests := true, laidLooks := .later }
def HibitBackCardSaid : Prop := Claim7.holds Tryd.pinned (.plain (OpenSpec.ofChange hibitBackSpec)) hibitBackCard

/-- THE TIED CARD OF 'vivariumlaw2.HibitSame'. -/
def hibitSameCard : Claim7 := { stood := { row := hibitSameRow, standIns := [], harness := (true, "959cdb3496cd32dd3b6806f8ff2a8b08ffe59a6692258fbffbca1855514e1f3f"), looks := false }, kinds := [], alts := [], laidByText := true, laidKinds := [.data], laidTests := true, laidLooks := .later }
def HibitSameCardSaid : Prop := Claim7.holds Tryd.pinned (.plain (OpenSpec.ofChange hibitSameSpec)) hibitSameCard

/-- THE TIED CARD OF 'vivariumlaw2.HibitPlays'. -/
def hibitPlaysCard : Claim7 := { stood := { row := hibitPlaysRow, standIns := [], harness := (true, "959cdb3496cd32dd3b6806f8ff2a8b08ffe59a6692258fbffbca1855514e1f3f"), looks := false }, kinds := [], alts := [], laidByText := true, laidKinds := [.data], laidTests := true, laidLooks := .later }
def HibitPlaysCardSaid : Prop := Claim7.holds Tryd.pinned (.plain (OpenSpec.ofChange hibitPlaysSpec)) hibitPlaysCard

/-- THE SECOND FORM's CARD OF 'vivariumlaw2.HibitLevels'. -/
def hibitLevelsUptoCard : Claim7 := { stood := { row := hibitLevelsUptoRow, standIns := [], harness := (true, "959cdb3496cd32dd3b6806f8ff2a8b08ffe59a6692258fbffbca1855514e1f3f"), looks := false }, kinds := [], alts := [], laidByText := true, laidKinds := [.data], laidTests := true, laidLooks := .later }
def HibitLevelsUptoCardSaid : Prop := Claim7.holds Tryd.pinned (.plain (OpenSpec.upto hibitLevelsSpec)) hibitLevelsUptoCard

/-- THE SECOND FORM's CARD OF 'vivariumlaw2.HibitLists'. -/
def hibitListsUptoCard : Claim7 := { stood := { row := hibitListsUptoRow, standIns := [], harness := (true, "959cdb3496cd32dd3b6806f8ff2a8b08ffe59a6692258fbffbca1855514e1f3f"), looks := false }, kinds := [], alts := [], laidByText := true, laidKinds := [.data], laidTests := true, laidLooks := .later }
def HibitListsUptoCardSaid : Prop := Claim7.holds Tryd.pinned (.plain (OpenSpec.upto hibitListsSpec)) hibitListsUptoCard

/-- THE SECOND FORM's CARD OF 'vivariumlaw2.HibitFar'. -/
def hibitFarUptoCard : Claim7 := { stood := { row := hibitFarUptoRow, standIns := [], harness := (true, "959cdb3496cd32dd3b6806f8ff2a8b08ffe59a6692258fbffbca1855514e1f3f"), looks := false }, kinds := [], alts := [], laidByText := true, laidKinds := [.data], laidTests := true, laidLooks := .later }
def HibitFarUptoCardSaid : Prop := Claim7.holds Tryd.pinned (.plain (OpenSpec.upto hibitFarSpec)) hibitFarUptoCard

/-- THE SECOND FORM's CARD OF 'vivariumlaw2.HibitBack'. -/
def hibitBackUptoCard : Claim7 := { stood := { row := hibitBackUptoRow, standIns := [], harness := (true, "959cdb3496cd32dd3b6806f8ff2a8b08ffe59a6692258fbffbca1855514e1f3f"), looks := false }, kinds := [], alts := [], laidByText := true, laidKinds := [.data], laidTests := true, laidLooks := .later }
def HibitBackUptoCardSaid : Prop := Claim7.holds Tryd.pinned (.plain (OpenSpec.upto hibitBackSpec)) hibitBackUptoCard

/-- THE SECOND FORM's CARD OF 'vivariumlaw2.HibitSame'. -/
def hibitSameUptoCard : Claim7 := { stood := { row := hibitSameUptoRow, standIns := [], harness := (true, "959cdb3496cd32dd3b6806f8ff2a8b08ffe59a6692258fbffbca1855514e1f3f"), looks := false }, kinds := [], alts := [], laidByText := true, laidKinds := [.data], laidTests := true, laidLooks := .later }
def HibitSameUptoCardSaid : Prop := Claim7.holds Tryd.pinned (.plain (OpenSpec.upto hibitSameSpec)) hibitSameUptoCard

/-- THE SECOND FORM's CARD OF 'vivariumlaw2.HibitPlays'. -/
def hibitPlaysUptoCard : Claim7 := { stood := { row := hibitPlaysUptoRow, standIns := [], harness := (true, "959cdb3496cd32dd3b6806f8ff2a8b08ffe59a6692258fbffbca1855514e1f3f"), looks := false }, kinds := [], alts := [], laidByText := true, laidKinds := [.data], laidTests := true, laidLooks := .later }
def HibitPlaysUptoCardSaid : Prop := Claim7.holds Tryd.pinned (.plain (OpenSpec.upto hibitPlaysSpec)) hibitPlaysUptoCard
end Rows
end Go.Proofs.YtdcihfofdjckjaaDoor
