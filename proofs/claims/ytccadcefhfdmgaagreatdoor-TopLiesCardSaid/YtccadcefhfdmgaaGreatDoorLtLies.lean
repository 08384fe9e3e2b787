/- TopLies returns true: with a clock that stands still two nodes may use one path, and still the gate lets nothing by under the elder grant behind the later one. No condition. -/
import Derived.Test.YtccadcefhfdmgaaGreatDoorLtO
import Derived.Test.YtccadcefhfdmgaaGreatDoorLtP
namespace Go.Proofs.YtccadcefhfdmgaaGreatDoor.topLies
open Go.ChangeShapes Go.WideShapes Go.ChangeAt Go.RowKit Go.PlainAid
open Go.ChangeMaps (open_string shut_string)

theorem proved : Rows.TopLiesCardSaid :=
  Claim7.holds_tied_plain_at .later [] [.data, .pinned] true (true, "453187f811c34976b18a11facdd9dc74a0d0882a21f206bd78ca1aa1aed8e0ee") true over (fun _ h => by cases h) wfText (fun _ h => by cases h) topLies_row_tie rfl ⟨rfl, rfl⟩ mains rfl
    (fun f fn hf hfn => by
      obtain rfl : f = 3 := Option.some.inj ((show Tryz.prog.funcNamed "sublet/sublettop.TopLies" = some 3 from named3).symm.trans hf) |>.symm
      obtain rfl : fn = Tryz.f3 := (Option.some.inj (Tryz.func3.symm.trans hfn)).symm
      exact ⟨seen, fun j t ht => by
        rw [Tryz.params3] at ht
        simp at ht⟩)
    goes
#print axioms proved
end Go.Proofs.YtccadcefhfdmgaaGreatDoor.topLies
