/-
  DERIVED. GIVEN WITH THE SEED: THE CARDS: each row of YtccadcefhfdmgaaGreatDoorRows.lean that lists a variable, with what it lists TIED to the program's text (the seventh form; the later family's looks); each row that meets fmt, with fmt's text TOLD by the authors' own Lean function (tested against real Go, not proved from fmt's source: count such statements apart). THE CARD IS WHAT COUNTS. Prove the row's statement (the work); the ties are given (YtccadcefhfdmgaaGreatDoorTie.lean); close each card by the builder's one call (the guide's Derived/Test/ToyasCard.lean, 'card_holds'). Laid BY PROGRAM, IN A SANDBOX (cutbox-door.mjs). By AI agents, Wed Nov 11 2026. No macro, syntax, notation, axiom, sorry.
-/
import Derived.Test.YtccadcefhfdmgaaGreatDoorRows
import GoSem.ClaimSeven
namespace Go.Proofs.YtccadcefhfdmgaaGreatDoor
namespace Rows

/-- THE TIED CARD OF 'sublettop.TopLies'. -/
def topLiesCard : Claim7 := { stood := { row := topLiesRow, standIns := [], harness := (true, "453187f811c34976b18a11facdd9dc74a0d0882a21f206bd78ca1aa1aed8e0ee"), looks := true }, kinds := [], alts := [], laidByText := true, laidKinds := [.data, .pinned], laidTests := true, laidLooks := .later }
def TopLiesCardSaid : Prop := Claim7.holds Tryz.pinned (.plain (OpenSpec.ofChange topLiesSpec)) topLiesCard

/-- THE SECOND FORM's CARD OF 'sublettop.TopLies'. -/
def topLiesUptoCard : Claim7 := { stood := { row := topLiesUptoRow, standIns := [], harness := (true, "453187f811c34976b18a11facdd9dc74a0d0882a21f206bd78ca1aa1aed8e0ee"), looks := true }, kinds := [], alts := [], laidByText := true, laidKinds := [.data, .pinned], laidTests := true, laidLooks := .later }
def TopLiesUptoCardSaid : Prop := Claim7.holds Tryz.pinned (.plain (OpenSpec.upto topLiesSpec)) topLiesUptoCard
end Rows
end Go.Proofs.YtccadcefhfdmgaaGreatDoor
