/- Facts of the card of TopLies. No condition. -/
import Derived.Test.YtccadcefhfdmgaaGreatDoorTie
import Derived.Test.YtccadcefhfdmgaaGreatDoorCards
import Derived.Below
import Derived.ChangeOld
import Derived.LaidMore
import Derived.Lay
import Derived.Lib.LaidTab
import Derived.OpenShut
import Derived.PlainAid
import Derived.ProofKit
import Derived.SevenTiedAt
import Derived.Shelf.Vars
import Derived.ShutString
import Derived.SizedLaws
import Derived.Stop.Joined
import Derived.Stop.LaidErr
import Derived.WideShapes
namespace Go.Proofs.YtccadcefhfdmgaaGreatDoor.topLies
open Go.ChangeShapes Go.WideShapes Go.ChangeAt Go.RowKit Go.PlainAid
open Go.ChangeMaps (open_string shut_string)

theorem nogo : Tryz.prog.funcs.toList.any Func.goes = false := by kernel_rfl
theorem nogo1 (f : Nat) : Tryz.prog.goes f = false := by
  have h0 : Tryz.prog.funcs.any Func.goes = false := by rw [← Array.any_toList]; exact nogo
  unfold Program.goes
  rw [h0, Bool.and_false, Bool.or_false, List.any_eq_false]
  intro g _ h
  cases hg : Tryz.prog.funcs[g]? with
  | none => rw [hg] at h; cases h
  | some fn =>
    rw [hg] at h
    have := List.any_eq_false.1 nogo fn (by simpa using Array.mem_of_getElem? hg)
    exact this h
theorem goes : false = Rows.topLiesRow.goesBy Tryz.pinned.checked.prog := by
  show false = (((Tryz.prog.funcNamed "sublet/sublettop.TopLies").any Tryz.prog.goes) || false)
  rw [Bool.or_false]
  cases Tryz.prog.funcNamed "sublet/sublettop.TopLies" with
  | none => rfl
  | some f => rw [Option.any_some, nogo1]
theorem wfText : Rows.topLiesRow.wfByText (OpenSpec.ofChange Rows.topLiesSpec) = true := by kernel_rfl
theorem mains : Tryz.prog.mainIs = some (true, "453187f811c34976b18a11facdd9dc74a0d0882a21f206bd78ca1aa1aed8e0ee".toList) := by kernel_rfl
theorem seen : true = Tryz.prog.looks [] := by kernel_rfl
end Go.Proofs.YtccadcefhfdmgaaGreatDoor.topLies
