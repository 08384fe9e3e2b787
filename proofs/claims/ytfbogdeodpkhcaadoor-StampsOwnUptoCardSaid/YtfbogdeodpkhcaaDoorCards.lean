/-
  DERIVED. GIVEN WITH THE SEED: THE CARDS: each row of YtfbogdeodpkhcaaDoorRows.lean that lists a variable, with what it lists TIED to the program's text (the seventh form; the later family's looks); each row that meets fmt, with fmt's text TOLD by the authors' own Lean function (tested against real Go, not proved from fmt's source: count such statements apart). THE CARD IS WHAT COUNTS. Prove the row's statement (the work); the ties are given (YtfbogdeodpkhcaaDoorTie.lean); close each card by the builder's one call (the guide's Derived/Test/ToyasCard.lean, 'card_holds'). Laid BY PROGRAM, IN A SANDBOX (cutbox-door.mjs). By AI agents, Wed Nov 11 2026. No macro, syntax, notation, axiom, sorry.
-/
import Derived.Test.YtfbogdeodpkhcaaDoorRows
import GoSem.ClaimSeven
namespace Go.Proofs.YtfbogdeodpkhcaaDoor
namespace Rows

/-- THE TIED CARD OF 'subletlaw04.StampsNames'. -/
def stampsNamesCard : Claim7 := { stood := { row := stampsNamesRow, standIns := [], harness := (true, "5f12fa10b805fcb0d992aeb5db102955f99dabd546fdc4991e02cd6d2c5be258"), looks := true }, kinds := [], alts := [], laidByText := true, laidKinds := [.data, .data, .data, .data, .sentinel, .sentinel, .pinned], laidTests := true, laidLooks := .later }
def StampsNamesCardSaid : Prop := Claim7.holds Tryd.pinned (.plain (OpenSpec.ofChange stampsNamesSpec)) stampsNamesCard

/-- THE TIED CARD OF 'subletlaw04.StampsPairs'. -/
def stampsPairsCard : Claim7 := { stood := { row := stampsPairsRow, standIns := [], harness := (true, "5f12fa10b805fcb0d992aeb5db102955f99dabd546fdc4991e02cd6d2c5be258"), looks := true }, kinds := [], alts := [], laidByText := true, laidKinds := [.data, .data, .data, .data, .sentinel, .sentinel, .pinned], laidTests := true, laidLooks := .later }
def StampsPairsCardSaid : Prop := Claim7.holds Tryd.pinned (.plain (OpenSpec.ofChange stampsPairsSpec)) stampsPairsCard

/-- THE TIED CARD OF 'subletlaw04.StampsMakes'. -/
def stampsMakesCard : Claim7 := { stood := { row := stampsMakesRow, standIns := [], harness := (true, "5f12fa10b805fcb0d992aeb5db102955f99dabd546fdc4991e02cd6d2c5be258"), looks := true }, kinds := [], alts := [], laidByText := true, laidKinds := [.data, .data, .data, .data, .sentinel, .sentinel, .pinned], laidTests := true, laidLooks := .later }
def StampsMakesCardSaid : Prop := Claim7.holds Tryd.pinned (.plain (OpenSpec.ofChange stampsMakesSpec)) stampsMakesCard

/-- THE TIED CARD OF 'subletlaw04.StampsTexts'. -/
def stampsTextsCard : Claim7 := { stood := { row := stampsTextsRow, standIns := [], harness := (true, "5f12fa10b805fcb0d992aeb5db102955f99dabd546fdc4991e02cd6d2c5be258"), looks := true }, kinds := [], alts := [], laidByText := true, laidKinds := [.data, .data, .data, .data, .sentinel, .sentinel, .pinned], laidTests := true, laidLooks := .later }
def StampsTextsCardSaid : Prop := Claim7.holds Tryd.pinned (.plain (OpenSpec.ofChange stampsTextsSpec)) stampsTextsCard

/-- THE TIED CARD OF 'subletlaw04.StampsBack'. -/
def stampsBackCard : Claim7 := { stood := { row := stampsBackRow, standIns := [], harness := (true, "5f12fa10b805fcb0d992aeb5db102955f99dabd546fdc4991e02cd6d2c5be258"), looks := true }, kinds := [], alts := [], laidByText := true, laidKinds := [.data, .data, .data, .data, .sentinel, .sentinel, .pinned], laidTests := true, laidLooks := .later }
def StampsBackCardSaid : Prop := Claim7.holds Tryd.pinned (.plain (OpenSpec.ofChange stampsBackSpec)) stampsBackCard

/-- THE TIED CARD OF 'subletlaw04.StampsOrder'. -/
def stampsOrderCard : Claim7 := { stood := { row := stampsOrderRow, standIns := [], harness := (true, "5f12fa10b805fcb0d992aeb5db102955f99dabd546fdc4991e02cd6d2c5be258"), looks := true }, kinds := [], alts := [], laidByText := true, laidKinds := [.data, .data, .data, .data, .sentinel, .sentinel, .pinned], laidTests := true, laidLooks := .later }
def StampsOrderCardSaid : Prop := Claim7.holds Tryd.pinned (.plain (OpenSpec.ofChange stampsOrderSpec)) stampsOrderCard

/-- THE TIED CARD OF 'subletlaw04.StampsGrow'. -/
def stampsGrowCard : Claim7 := { stood := { row := stampsGrowRow, standIns := [], harness := (true, "5f12fa10b805fcb0d992aeb5db102955f99dabd546fdc4991e02cd6d2c5be258"), looks := true }, kinds := [], alts := [], laidByText := true, laidKinds := [.data, .data, .data, .data, .sentinel, .sentinel, .pinned], laidTests := true, laidLooks := .later }
def StampsGrowCardSaid : Prop := Claim7.holds Tryd.pinned (.plain (OpenSpec.ofChange stampsGrowSpec)) stampsGrowCard

/-- THE TIED CARD OF 'subletlaw04.StampsOwn'. -/
def stampsOwnCard : Claim7 := { stood := { row := stampsOwnRow, standIns := [], harness := (true, "5f12fa10b805fcb0d992aeb5db102955f99dabd546fdc4991e02cd6d2c5be258"), looks := true }, kinds := [], alts := [], laidByText := true, laidKinds := [.data, .data, .data, .data, .sentinel, .sentinel, .pinned], laidTests := true, laidLooks := .later }
def StampsOwnCardSaid : Prop := Claim7.holds Tryd.pinned (.plain (OpenSpec.ofChange stampsOwnSpec)) stampsOwnCard

/-- THE SECOND FORM's CARD OF 'subletlaw04.StampsNames'. -/
def stampsNamesUptoCard : Claim7 := { stood := { row := stampsNamesUptoRow, standIns := [], harness := (true, "5f12fa10b805fcb0d992aeb5db102955f99dabd546fdc4991e02cd6d2c5be258"), looks := true }, kinds := [], alts := [], laidByText := true, laidKinds := [.data, .data, .data, .data, .sentinel, .sentinel, .pinned], laidTests := true, laidLooks := .later }
def StampsNamesUptoCardSaid : Prop := Claim7.holds Tryd.pinned (.plain (OpenSpec.upto stampsNamesSpec)) stampsNamesUptoCard

/-- THE SECOND FORM's CARD OF 'subletlaw04.StampsPairs'. -/
def stampsPairsUptoCard : Claim7 := { stood := { row := stampsPairsUptoRow, standIns := [], harness := (true, "5f12fa10b805fcb0d992aeb5db102955f99dabd546fdc4991e02cd6d2c5be258"), looks := true }, kinds := [], alts := [], laidByText := true, laidKinds := [.data, .data, .data, .data, .sentinel, .sentinel, .pinned], laidTests := true, laidLooks := .later }
def StampsPairsUptoCardSaid : Prop := Claim7.holds Tryd.pinned (.plain (OpenSpec.upto stampsPairsSpec)) stampsPairsUptoCard

/-- THE SECOND FORM's CARD OF 'subletlaw04.StampsMakes'. -/
def stampsMakesUptoCard : Claim7 := { stood := { row := stampsMakesUptoRow, standIns := [], harness := (true, "5f12fa10b805fcb0d992aeb5db102955f99dabd546fdc4991e02cd6d2c5be258"), looks := true }, kinds := [], alts := [], laidByText := true, laidKinds := [.data, .data, .data, .data, .sentinel, .sentinel, .pinned], laidTests := true, laidLooks := .later }
def StampsMakesUptoCardSaid : Prop := Claim7.holds Tryd.pinned (.plain (OpenSpec.upto stampsMakesSpec)) stampsMakesUptoCard

/-- THE SECOND FORM's CARD OF 'subletlaw04.StampsTexts'. -/
def stampsTextsUptoCard : Claim7 := { stood := { row := stampsTextsUptoRow, standIns := [], harness := (true, "5f12fa10b805fcb0d992aeb5db102955f99dabd546fdc4991e02cd6d2c5be258"), looks := true }, kinds := [], alts := [], laidByText := true, laidKinds := [.data, .data, .data, .data, .sentinel, .sentinel, .pinned], laidTests := true, laidLooks := .later }
def StampsTextsUptoCardSaid : Prop := Claim7.holds Tryd.pinned (.plain (OpenSpec.upto stampsTextsSpec)) stampsTextsUptoCard

/-- THE SECOND FORM's CARD OF 'subletlaw04.StampsBack'. -/
def stampsBackUptoCard : Claim7 := { stood := { row := stampsBackUptoRow, standIns := [], harness := (true, "5f12fa10b805fcb0d992aeb5db102955f99dabd546fdc4991e02cd6d2c5be258"), looks := true }, kinds := [], alts := [], laidByText := true, laidKinds := [.data, .data, .data, .data, .sentinel, .sentinel, .pinned], laidTests := true, laidLooks := .later }
def StampsBackUptoCardSaid : Prop := Claim7.holds Tryd.pinned (.plain (OpenSpec.upto stampsBackSpec)) stampsBackUptoCard

/-- THE SECOND FORM's CARD OF 'subletlaw04.StampsOrder'. -/
def stampsOrderUptoCard : Claim7 := { stood := { row := stampsOrderUptoRow, standIns := [], harness := (true, "5f12fa10b805fcb0d992aeb5db102955f99dabd546fdc4991e02cd6d2c5be258"), looks := true }, kinds := [], alts := [], laidByText := true, laidKinds := [.data, .data, .data, .data, .sentinel, .sentinel, .pinned], laidTests := true, laidLooks := .later }
def StampsOrderUptoCardSaid : Prop := Claim7.holds Tryd.pinned (.plain (OpenSpec.upto stampsOrderSpec)) stampsOrderUptoCard

/-- THE SECOND FORM's CARD OF 'subletlaw04.StampsGrow'. -/
def stampsGrowUptoCard : Claim7 := { stood := { row := stampsGrowUptoRow, standIns := [], harness := (true, "5f12fa10b805fcb0d992aeb5db102955f99dabd546fdc4991e02cd6d2c5be258"), looks := true }, kinds := [], alts := [], laidByText := true, laidKinds := [.data, .data, .data, .data, .sentinel, .sentinel, .pinned], laidTests := true, laidLooks := .later }
def StampsGrowUptoCardSaid : Prop := Claim7.holds Tryd.pinned (.plain (OpenSpec.upto stampsGrowSpec)) stampsGrowUptoCard

/-- THE SECOND FORM's CARD OF 'subletlaw04.StampsOwn'. -/
def stampsOwnUptoCard : Claim7 := { stood := { row := stampsOwnUptoRow, standIns := [], harness := (true, "5f12fa10b805fcb0d992aeb5db102955f99dabd546fdc4991e02cd6d2c5be258"), looks := true }, kinds := [], alts := [], laidByText := true, laidKinds := [.data, .data, .data, .data, .sentinel, .sentinel, .pinned], laidTests := true, laidLooks := .later }
def StampsOwnUptoCardSaid : Prop := Claim7.holds Tryd.pinned (.plain (OpenSpec.upto stampsOwnSpec)) stampsOwnUptoCard
end Rows
end Go.Proofs.YtfbogdeodpkhcaaDoor
