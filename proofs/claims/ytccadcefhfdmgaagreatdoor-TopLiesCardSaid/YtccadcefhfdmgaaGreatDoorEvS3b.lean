/- One stage of function 3, reckoned by the kernel. No condition. -/
import Derived.Test.YtccadcefhfdmgaaGreatDoorProg
import Derived.Test.YtccadcefhfdmgaaGreatDoorEvL
import Derived.KernelRfl
namespace Go.Proofs.YtccadcefhfdmgaaGreatDoor.Ev
open Go Go.Proofs
theorem st3b : (onO (fnC Tryz.prog 3) false fun x => chkS fr3_5 n3_5 ob3_5 (runK Tryz.prog 3 x.nt x.W 1 (dropC 4 x.body) (ev Tryz.prog intr5 200) (frameOf fr3_4) [] (snapH n3_4 ob3_4))) = true := by kernel_rfl
end Go.Proofs.YtccadcefhfdmgaaGreatDoor.Ev
