/- One stage of function 3, reckoned by the kernel. No condition. -/
import Derived.Test.YtccadcefhfdmgaaGreatDoorProg
import Derived.Test.YtccadcefhfdmgaaGreatDoorEvL
import Derived.KernelRfl
namespace Go.Proofs.YtccadcefhfdmgaaGreatDoor.Ev
open Go Go.Proofs
theorem st3d : (onO (fnC Tryz.prog 3) false fun x => chkS fr3_9 n3_9 ob3_9 (runK Tryz.prog 3 x.nt x.W 1 (dropC 8 x.body) (ev Tryz.prog intr5 200) (frameOf fr3_8) [] (snapH n3_8 ob3_8))) = true := by kernel_rfl
end Go.Proofs.YtccadcefhfdmgaaGreatDoor.Ev
