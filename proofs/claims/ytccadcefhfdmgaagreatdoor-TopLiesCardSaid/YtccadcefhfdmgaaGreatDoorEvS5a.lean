/- One stage of function 5, reckoned by the kernel. No condition. -/
import Derived.Test.YtccadcefhfdmgaaGreatDoorProg
import Derived.Test.YtccadcefhfdmgaaGreatDoorEvK
import Derived.KernelRfl
namespace Go.Proofs.YtccadcefhfdmgaaGreatDoor.Ev
open Go Go.Proofs
theorem st5a : (onO (fnC Tryz.prog 5) false fun x => chkS fr5_4 n5_4 ob5_4 (runK Tryz.prog 5 x.nt x.W 4 x.body (ev Tryz.prog intr 200) (frameOf []) [] (snapH 0 []))) = true := by kernel_rfl
end Go.Proofs.YtccadcefhfdmgaaGreatDoor.Ev
