/-
  DERIVED. GIVEN WITH THE SEED: THE CARDS: each row of YtlgbmkdeamgpkaaGreatDoorRows.lean that lists a variable, with what it lists TIED to the program's text (the seventh form; the later family's looks); each row that meets fmt, with fmt's text TOLD by the authors' own Lean function (tested against real Go, not proved from fmt's source: count such statements apart). THE CARD IS WHAT COUNTS. Prove the row's statement (the work); the ties are given (YtlgbmkdeamgpkaaGreatDoorTie.lean); close each card by the builder's one call (the guide's Derived/Test/ToyasCard.lean, 'card_holds'). Laid BY PROGRAM, IN A SANDBOX (cutbox-door.mjs). By AI agents, Wed Nov 11 2026. No macro, syntax, notation, axiom, sorry.
-/
import Derived.Test.YtlgbmkdeamgpkaaGreatDoorRows
import GoSem.ClaimSeven
namespace Go.Proofs.YtlgbmkdeamgpkaaGreatDoor
namespace Rows

/-- THE TIED CARD OF 'subletlaw19.GateNames'. -/
def gateNamesCard : Claim7 := { stood := { row := gateNamesRow, standIns := [], harness := (true, "36de4b0e266865fa76cef0376ca197fae2bbf455f528766fd1e4f577ed6d676b"), looks := false }, kinds := [], alts := [], laidByText := true, laidKinds := [.data, .pinned], laidTests := true, laidLooks := .later }
def GateNamesCardSaid : Prop := Claim7.holds Tryz.pinned (.plain (OpenSpec.ofChange gateNamesSpec)) gateNamesCard

/-- THE TIED CARD OF 'subletlaw19.GateFair'. -/
def gateFairCard : Claim7 := { stood := { row := gateFairRow, standIns := [], harness := (true, "36de4b0e266865fa76cef0376ca197fae2bbf455f528766fd1e4f577ed6d676b"), looks := false }, kinds := [], alts := [], laidByText := true, laidKinds := [.data, .pinned], laidTests := true, laidLooks := .later }
def GateFairCardSaid : Prop := Claim7.holds Tryz.pinned (.plain (OpenSpec.ofChange gateFairSpec)) gateFairCard

/-- THE TIED CARD OF 'subletlaw19.GateOwn'. -/
def gateOwnCard : Claim7 := { stood := { row := gateOwnRow, standIns := [], harness := (true, "36de4b0e266865fa76cef0376ca197fae2bbf455f528766fd1e4f577ed6d676b"), looks := false }, kinds := [], alts := [], laidByText := true, laidKinds := [.data, .pinned], laidTests := true, laidLooks := .later }
def GateOwnCardSaid : Prop := Claim7.holds Tryz.pinned (.plain (OpenSpec.ofChange gateOwnSpec)) gateOwnCard

/-- THE TIED CARD OF 'subletlaw19.GateRises'. -/
def gateRisesCard : Claim7 := { stood := { row := gateRisesRow, standIns := [], harness := (true, "36de4b0e266865fa76cef0376ca197fae2bbf455f528766fd1e4f577ed6d676b"), looks := false }, kinds := [], alts := [], laidByText := true, laidKinds := [.data, .pinned], laidTests := true, laidLooks := .later }
def GateRisesCardSaid : Prop := Claim7.holds Tryz.pinned (.plain (OpenSpec.ofChange gateRisesSpec)) gateRisesCard

/-- THE TIED CARD OF 'subletlaw19.GatePlays'. -/
def gatePlaysCard : Claim7 := { stood := { row := gatePlaysRow, standIns := [], harness := (true, "36de4b0e266865fa76cef0376ca197fae2bbf455f528766fd1e4f577ed6d676b"), looks := false }, kinds := [], alts := [], laidByText := true, laidKinds := [.data, .pinned], laidTests := true, laidLooks := .later }
def GatePlaysCardSaid : Prop := Claim7.holds Tryz.pinned (.plain (OpenSpec.ofChange gatePlaysSpec)) gatePlaysCard

/-- THE TIED CARD OF 'subletlaw19.GateRaw'. -/
def gateRawCard : Claim7 := { stood := { row := gateRawRow, standIns := [], harness := (true, "36de4b0e266865fa76cef0376ca197fae2bbf455f528766fd1e4f577ed6d676b"), looks := false }, kinds := [], alts := [], laidByText := true, laidKinds := [.data, .pinned], laidTests := true, laidLooks := .later }
def GateRawCardSaid : Prop := Claim7.holds Tryz.pinned (.plain (OpenSpec.ofChange gateRawSpec)) gateRawCard

/-- THE TIED CARD OF 'subletlaw19.GateKeeps'. -/
def gateKeepsCard : Claim7 := { stood := { row := gateKeepsRow, standIns := [], harness := (true, "36de4b0e266865fa76cef0376ca197fae2bbf455f528766fd1e4f577ed6d676b"), looks := false }, kinds := [], alts := [], laidByText := true, laidKinds := [.data, .pinned], laidTests := true, laidLooks := .later }
def GateKeepsCardSaid : Prop := Claim7.holds Tryz.pinned (.plain (OpenSpec.ofChange gateKeepsSpec)) gateKeepsCard

/-- THE SECOND FORM's CARD OF 'subletlaw19.GateNames'. -/
def gateNamesUptoCard : Claim7 := { stood := { row := gateNamesUptoRow, standIns := [], harness := (true, "36de4b0e266865fa76cef0376ca197fae2bbf455f528766fd1e4f577ed6d676b"), looks := false }, kinds := [], alts := [], laidByText := true, laidKinds := [.data, .pinned], laidTests := true, laidLooks := .later }
def GateNamesUptoCardSaid : Prop := Claim7.holds Tryz.pinned (.plain (OpenSpec.upto gateNamesSpec)) gateNamesUptoCard

/-- THE SECOND FORM's CARD OF 'subletlaw19.GateFair'. -/
def gateFairUptoCard : Claim7 := { stood := { row := gateFairUptoRow, standIns := [], harness := (true, "36de4b0e266865fa76cef0376ca197fae2bbf455f528766fd1e4f577ed6d676b"), looks := false }, kinds := [], alts := [], laidByText := true, laidKinds := [.data, .pinned], laidTests := true, laidLooks := .later }
def GateFairUptoCardSaid : Prop := Claim7.holds Tryz.pinned (.plain (OpenSpec.upto gateFairSpec)) gateFairUptoCard

/-- THE SECOND FORM's CARD OF 'subletlaw19.GateOwn'. -/
def gateOwnUptoCard : Claim7 := { stood := { row := gateOwnUptoRow, standIns := [], harness := (true, "36de4b0e266865fa76cef0376ca197fae2bbf455f528766fd1e4f577ed6d676b"), looks := false }, kinds := [], alts := [], laidByText := true, laidKinds := [.data, .pinned], laidTests := true, laidLooks := .later }
def GateOwnUptoCardSaid : Prop := Claim7.holds Tryz.pinned (.plain (OpenSpec.upto gateOwnSpec)) gateOwnUptoCard

/-- THE SECOND FORM's CARD OF 'subletlaw19.GateRises'. -/
def gateRisesUptoCard : Claim7 := { stood := { row := gateRisesUptoRow, standIns := [], harness := (true, "36de4b0e266865fa76cef0376ca197fae2bbf455f528766fd1e4f577ed6d676b"), looks := false }, kinds := [], alts := [], laidByText := true, laidKinds := [.data, .pinned], laidTests := true, laidLooks := .later }
def GateRisesUptoCardSaid : Prop := Claim7.holds Tryz.pinned (.plain (OpenSpec.upto gateRisesSpec)) gateRisesUptoCard

/-- THE SECOND FORM's CARD OF 'subletlaw19.GatePlays'. -/
def gatePlaysUptoCard : Claim7 := { stood := { row := gatePlaysUptoRow, standIns := [], harness := (true, "36de4b0e266865fa76cef0376ca197fae2bbf455f528766fd1e4f577ed6d676b"), looks := false }, kinds := [], alts := [], laidByText := true, laidKinds := [.data, .pinned], laidTests := true, laidLooks := .later }
def GatePlaysUptoCardSaid : Prop := Claim7.holds Tryz.pinned (.plain (OpenSpec.upto gatePlaysSpec)) gatePlaysUptoCard

/-- THE SECOND FORM's CARD OF 'subletlaw19.GateRaw'. -/
def gateRawUptoCard : Claim7 := { stood := { row := gateRawUptoRow, standIns := [], harness := (true, "36de4b0e266865fa76cef0376ca197fae2bbf455f528766fd1e4f577ed6d676b"), looks := false }, kinds := [], alts := [], laidByText := true, laidKinds := [.data, .pinned], laidTests := true, laidLooks := .later }
def GateRawUptoCardSaid : Prop := Claim7.holds Tryz.pinned (.plain (OpenSpec.upto gateRawSpec)) gateRawUptoCard

/-- THE SECOND FORM's CARD OF 'subletlaw19.GateKeeps'. -/
def gateKeepsUptoCard : Claim7 := { stood := { row := gateKeepsUptoRow, standIns := [], harness := (true, "36de4b0e266865fa76cef0376ca197fae2bbf455f528766fd1e4f577ed6d676b"), looks := false }, kinds := [], alts := [], laidByText := true, laidKinds := [.data, .pinned], laidTests := true, laidLooks := .later }
def GateKeepsUptoCardSaid : Prop := Claim7.holds Tryz.pinned (.plain (OpenSpec.upto gateKeepsSpec)) gateKeepsUptoCard
end Rows
end Go.Proofs.YtlgbmkdeamgpkaaGreatDoor
