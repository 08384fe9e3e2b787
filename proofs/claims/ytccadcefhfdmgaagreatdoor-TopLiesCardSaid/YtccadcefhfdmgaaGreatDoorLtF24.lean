/- Closed facts of the row. No condition. -/
import Derived.Test.YtccadcefhfdmgaaGreatDoorRows
import Derived.JoinedOf
import Derived.ProofKit
namespace Go.Proofs.YtccadcefhfdmgaaGreatDoor
set_option maxRecDepth 100000 in
theorem fact24 : (Tryz.prog.stopsHeard) = true := by kernel_rfl
end Go.Proofs.YtccadcefhfdmgaaGreatDoor
