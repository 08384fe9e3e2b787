/- The row of TopLies. No condition. -/
import Derived.Test.YtccadcefhfdmgaaGreatDoorLtW
import Derived.Test.YtccadcefhfdmgaaGreatDoorLtG
namespace Go.Proofs.YtccadcefhfdmgaaGreatDoor.topLies
open Go.ChangeShapes Go.WideShapes Go.ChangeAt Go.RowKit Go.PlainAid
open Go.ChangeMaps (open_string shut_string)

theorem named3 : Tryz.prog.funcNamed "sublet/sublettop.TopLies" = some 3 := by kernel_rfl
theorem over : Rows.topLiesRow.holds Tryz.pinned (OpenSpec.ofChange Rows.topLiesSpec) :=
  OpenClaim.holds_of_wide 3 Tryz.f3 rfl rfl rfl rfl rfl rfl rfl ⟨rfl, rfl, rfl, rfl, rfl⟩ rfl rfl rfl rfl rfl named3 Tryz.func3 closed
    (of_decide_eq_true (by kernel_rfl)) (by unfold Func.isWrapper; first | (rw [if_pos (by decide +kernel)]; kernel_rfl) | (rw [if_neg (by decide +kernel)]; exact ⟨rfl, rfl⟩))
    (fun os started H enc _ => lifted os started H enc)

end Go.Proofs.YtccadcefhfdmgaaGreatDoor.topLies
