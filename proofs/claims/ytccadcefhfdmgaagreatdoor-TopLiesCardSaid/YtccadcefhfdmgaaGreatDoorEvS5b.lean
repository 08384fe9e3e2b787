/- One stage of function 5, reckoned by the kernel. No condition. -/
import Derived.Test.YtccadcefhfdmgaaGreatDoorProg
import Derived.Test.YtccadcefhfdmgaaGreatDoorEvK
import Derived.KernelRfl
namespace Go.Proofs.YtccadcefhfdmgaaGreatDoor.Ev
open Go Go.Proofs
theorem st5b : (onO (fnC Tryz.prog 5) false fun x => chkS fr5_5 n5_5 ob5_5 (runK Tryz.prog 5 x.nt x.W 1 (dropC 4 x.body) (ev Tryz.prog intr 200) (frameOf fr5_4) [] (snapH n5_4 ob5_4))) = true := by kernel_rfl
end Go.Proofs.YtccadcefhfdmgaaGreatDoor.Ev
