/- Closed facts of the row, together. No condition. -/
import Derived.Test.YtccadcefhfdmgaaGreatDoorRows
import Derived.JoinedOf
import Derived.ProofKit
import Derived.Test.YtccadcefhfdmgaaGreatDoorLtF1
import Derived.Test.YtccadcefhfdmgaaGreatDoorLtF2
import Derived.Test.YtccadcefhfdmgaaGreatDoorLtF9
import Derived.Test.YtccadcefhfdmgaaGreatDoorLtF10
import Derived.Test.YtccadcefhfdmgaaGreatDoorLtF11
import Derived.Test.YtccadcefhfdmgaaGreatDoorLtF12
import Derived.Test.YtccadcefhfdmgaaGreatDoorLtF24
import Derived.Test.YtccadcefhfdmgaaGreatDoorLtF25
namespace Go.Proofs.YtccadcefhfdmgaaGreatDoor
theorem and_t {a b : Bool} (h : a = true) (k : b = true) : (a && b) = true := by rw [h, k]; rfl
set_option maxRecDepth 100000 in
theorem closed : joinedFacts Tryz.prog 3 Tryz.f3 Rows.topLiesSpec Rows.topLiesRow = true := by
  unfold joinedFacts
  refine and_t (and_t (and_t (and_t (and_t (and_t (and_t (and_t (and_t (and_t (and_t (and_t (and_t (and_t (and_t (and_t (and_t (and_t (and_t (and_t (and_t (and_t (and_t (and_t (and_t (and_t (and_t (and_t (and_t (and_t (and_t (?_) ?_) ?_) ?_) ?_) ?_) ?_) ?_) ?_) ?_) ?_) ?_) ?_) ?_) ?_) ?_) ?_) ?_) ?_) ?_) ?_) ?_) ?_) ?_) ?_) ?_) ?_) ?_) ?_) ?_) ?_) ?_
  · kernel_rfl
  · exact fact1
  · exact fact2
  · kernel_rfl
  · kernel_rfl
  · kernel_rfl
  · kernel_rfl
  · kernel_rfl
  · kernel_rfl
  · exact fact9
  · exact fact10
  · exact fact11
  · exact fact12
  · kernel_rfl
  · kernel_rfl
  · kernel_rfl
  · kernel_rfl
  · kernel_rfl
  · kernel_rfl
  · kernel_rfl
  · kernel_rfl
  · kernel_rfl
  · kernel_rfl
  · kernel_rfl
  · exact fact24
  · exact fact25
  · kernel_rfl
  · kernel_rfl
  · kernel_rfl
  · kernel_rfl
  · kernel_rfl
  · kernel_rfl
end Go.Proofs.YtccadcefhfdmgaaGreatDoor
