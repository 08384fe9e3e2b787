/-
  DERIVED. GIVEN WITH THE SEED: THE CARDS: each row of YthncnkkpfcbkfaaDoorRows.lean that lists a variable, with what it lists TIED to the program's text (the seventh form; the later family's looks); each row that meets fmt, with fmt's text TOLD by the authors' own Lean function (tested against real Go, not proved from fmt's source: count such statements apart). THE CARD IS WHAT COUNTS. Prove the row's statement (the work); the ties are given (YthncnkkpfcbkfaaDoorTie.lean); close each card by the builder's one call (the guide's Derived/Test/ToyasCard.lean, 'card_holds'). Laid BY PROGRAM, IN A SANDBOX (cutbox-door.mjs). By AI agents, Wed Nov 11 2026. No macro, syntax, notation, axiom, sorry.
-/
import Derived.Test.YthncnkkpfcbkfaaDoorRows
import GoSem.ClaimSeven
namespace Go.Proofs.YthncnkkpfcbkfaaDoor
namespace Rows

/-- THE TIED CARD OF 'subletlaw10.SectorsNames'. -/
def sectorsNamesCard : Claim7 := { stood := { row := sectorsNamesRow, standIns := [], harness := (true, "dc3eabe4416708f3bf80b9d2489c313fb0226dd42c19edfe3363a148024dce7c"), looks := true }, kinds := [], alts := [], laidByText := true, laidKinds := [.data, .pinned], laidTests := true, laidLooks := .later }
def SectorsNamesCardSaid : Prop := Claim7.holds Tryd.pinned (.plain (OpenSpec.ofChange sectorsNamesSpec)) sectorsNamesCard

/-- THE TIED CARD OF 'subletlaw10.SectorsPacks'. -/
def sectorsPacksCard : Claim7 := { stood := { row := sectorsPacksRow, standIns := [], harness := (true, "dc3eabe4416708f3bf80b9d2489c313fb0226dd42c19edfe3363a148024dce7c"), looks := true }, kinds := [], alts := [], laidByText := true, laidKinds := [.data, .pinned], laidTests := true, laidLooks := .later }
def SectorsPacksCardSaid : Prop := Claim7.holds Tryd.pinned (.plain (OpenSpec.ofChange sectorsPacksSpec)) sectorsPacksCard

/-- THE TIED CARD OF 'subletlaw10.SectorsLooks'. -/
def sectorsLooksCard : Claim7 := { stood := { row := sectorsLooksRow, standIns := [], harness := (true, "dc3eabe4416708f3bf80b9d2489c313fb0226dd42c19edfe3363a148024dce7c"), looks := true }, kinds := [], alts := [], laidByText := true, laidKinds := [.data, .pinned], laidTests := true, laidLooks := .later }
def SectorsLooksCardSaid : Prop := Claim7.holds Tryd.pinned (.plain (OpenSpec.ofChange sectorsLooksSpec)) sectorsLooksCard

/-- THE TIED CARD OF 'subletlaw10.SectorsScans'. -/
def sectorsScansCard : Claim7 := { stood := { row := sectorsScansRow, standIns := [], harness := (true, "dc3eabe4416708f3bf80b9d2489c313fb0226dd42c19edfe3363a148024dce7c"), looks := true }, kinds := [], alts := [], laidByText := true, laidKinds := [.data, .pinned], laidTests := true, laidLooks := .later }
def SectorsScansCardSaid : Prop := Claim7.holds Tryd.pinned (.plain (OpenSpec.ofChange sectorsScansSpec)) sectorsScansCard

/-- THE TIED CARD OF 'subletlaw10.SectorsBack'. -/
def sectorsBackCard : Claim7 := { stood := { row := sectorsBackRow, standIns := [], harness := (true, "dc3eabe4416708f3bf80b9d2489c313fb0226dd42c19edfe3363a148024dce7c"), looks := true }, kinds := [], alts := [], laidByText := true, laidKinds := [.data, .pinned], laidTests := true, laidLooks := .later }
def SectorsBackCardSaid : Prop := Claim7.holds Tryd.pinned (.plain (OpenSpec.ofChange sectorsBackSpec)) sectorsBackCard

/-- THE TIED CARD OF 'subletlaw10.SectorsTorn'. -/
def sectorsTornCard : Claim7 := { stood := { row := sectorsTornRow, standIns := [], harness := (true, "dc3eabe4416708f3bf80b9d2489c313fb0226dd42c19edfe3363a148024dce7c"), looks := true }, kinds := [], alts := [], laidByText := true, laidKinds := [.data, .pinned], laidTests := true, laidLooks := .later }
def SectorsTornCardSaid : Prop := Claim7.holds Tryd.pinned (.plain (OpenSpec.ofChange sectorsTornSpec)) sectorsTornCard

/-- THE TIED CARD OF 'subletlaw10.SectorsTurned'. -/
def sectorsTurnedCard : Claim7 := { stood := { row := sectorsTurnedRow, standIns := [], harness := (true, "dc3eabe4416708f3bf80b9d2489c313fb0226dd42c19edfe3363a148024dce7c"), looks := true }, kinds := [], alts := [], laidByText := true, laidKinds := [.data, .pinned], laidTests := true, laidLooks := .later }
def SectorsTurnedCardSaid : Prop := Claim7.holds Tryd.pinned (.plain (OpenSpec.ofChange sectorsTurnedSpec)) sectorsTurnedCard

/-- THE TIED CARD OF 'subletlaw10.SectorsOwn'. -/
def sectorsOwnCard : Claim7 := { stood := { row := sectorsOwnRow, standIns := [], harness := (true, "dc3eabe4416708f3bf80b9d2489c313fb0226dd42c19edfe3363a148024dce7c"), looks := true }, kinds := [], alts := [], laidByText := true, laidKinds := [.data, .pinned], laidTests := true, laidLooks := .later }
def SectorsOwnCardSaid : Prop := Claim7.holds Tryd.pinned (.plain (OpenSpec.ofChange sectorsOwnSpec)) sectorsOwnCard

/-- THE SECOND FORM's CARD OF 'subletlaw10.SectorsNames'. -/
def sectorsNamesUptoCard : Claim7 := { stood := { row := sectorsNamesUptoRow, standIns := [], harness := (true, "dc3eabe4416708f3bf80b9d2489c313fb0226dd42c19edfe3363a148024dce7c"), looks := true }, kinds := [], alts := [], laidByText := true, laidKinds := [.data, .pinned], laidTests := true, laidLooks := .later }
def SectorsNamesUptoCardSaid : Prop := Claim7.holds Tryd.pinned (.plain (OpenSpec.upto sectorsNamesSpec)) sectorsNamesUptoCard

/-- THE SECOND FORM's CARD OF 'subletlaw10.SectorsPacks'. -/
def sectorsPacksUptoCard : Claim7 := { stood := { row := sectorsPacksUptoRow, standIns := [], harness := (true, "dc3eabe4416708f3bf80b9d2489c313fb0226dd42c19edfe3363a148024dce7c"), looks := true }, kinds := [], alts := [], laidByText := true, laidKinds := [.data, .pinned], laidTests := true, laidLooks := .later }
def SectorsPacksUptoCardSaid : Prop := Claim7.holds Tryd.pinned (.plain (OpenSpec.upto sectorsPacksSpec)) sectorsPacksUptoCard

/-- THE SECOND FORM's CARD OF 'subletlaw10.SectorsLooks'. -/
def sectorsLooksUptoCard : Claim7 := { stood := { row := sectorsLooksUptoRow, standIns := [], harness := (true, "dc3eabe4416708f3bf80b9d2489c313fb0226dd42c19edfe3363a148024dce7c"), looks := true }, kinds := [], alts := [], laidByText := true, laidKinds := [.data, .pinned], laidTests := true, laidLooks := .later }
def SectorsLooksUptoCardSaid : Prop := Claim7.holds Tryd.pinned (.plain (OpenSpec.upto sectorsLooksSpec)) sectorsLooksUptoCard

/-- THE SECOND FORM's CARD OF 'subletlaw10.SectorsScans'. -/
def sectorsScansUptoCard : Claim7 := { stood := { row := sectorsScansUptoRow, standIns := [], harness := (true, "dc3eabe4416708f3bf80b9d2489c313fb0226dd42c19edfe3363a148024dce7c"), looks := true }, kinds := [], alts := [], laidByText := true, laidKinds := [.data, .pinned], laidTests := true, laidLooks := .later }
def SectorsScansUptoCardSaid : Prop := Claim7.holds Tryd.pinned (.plain (OpenSpec.upto sectorsScansSpec)) sectorsScansUptoCard

/-- THE SECOND FORM's CARD OF 'subletlaw10.SectorsBack'. -/
def sectorsBackUptoCard : Claim7 := { stood := { row := sectorsBackUptoRow, standIns := [], harness := (true, "dc3eabe4416708f3bf80b9d2489c313fb0226dd42c19edfe3363a148024dce7c"), looks := true }, kinds := [], alts := [], laidByText := true, laidKinds := [.data, .pinned], laidTests := true, laidLooks := .later }
def SectorsBackUptoCardSaid : Prop := Claim7.holds Tryd.pinned (.plain (OpenSpec.upto sectorsBackSpec)) sectorsBackUptoCard

/-- THE SECOND FORM's CARD OF 'subletlaw10.SectorsTorn'. -/
def sectorsTornUptoCard : Claim7 := { stood := { row := sectorsTornUptoRow, standIns := [], harness := (true, "dc3eabe4416708f3bf80b9d2489c313fb0226dd42c19edfe3363a148024dce7c"), looks := true }, kinds := [], alts := [], laidByText := true, laidKinds := [.data, .pinned], laidTests := true, laidLooks := .later }
def SectorsTornUptoCardSaid : Prop := Claim7.holds Tryd.pinned (.plain (OpenSpec.upto sectorsTornSpec)) sectorsTornUptoCard

/-- THE SECOND FORM's CARD OF 'subletlaw10.SectorsTurned'. -/
def sectorsTurnedUptoCard : Claim7 := { stood := { row := sectorsTurnedUptoRow, standIns := [], harness := (true, "dc3eabe4416708f3bf80b9d2489c313fb0226dd42c19edfe3363a148024dce7c"), looks := true }, kinds := [], alts := [], laidByText := true, laidKinds := [.data, .pinned], laidTests := true, laidLooks := .later }
def SectorsTurnedUptoCardSaid : Prop := Claim7.holds Tryd.pinned (.plain (OpenSpec.upto sectorsTurnedSpec)) sectorsTurnedUptoCard

/-- THE SECOND FORM's CARD OF 'subletlaw10.SectorsOwn'. -/
def sectorsOwnUptoCard : Claim7 := { stood := { row := sectorsOwnUptoRow, standIns := [], harness := (true, "dc3eabe4416708f3bf80b9d2489c313fb0226dd42c19edfe3363a148024dce7c"), looks := true }, kinds := [], alts := [], laidByText := true, laidKinds := [.data, .pinned], laidTests := true, laidLooks := .later }
def SectorsOwnUptoCardSaid : Prop := Claim7.holds Tryd.pinned (.plain (OpenSpec.upto sectorsOwnSpec)) sectorsOwnUptoCard
end Rows
end Go.Proofs.YthncnkkpfcbkfaaDoor
