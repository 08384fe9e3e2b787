/- One stage of function 3, reckoned by the kernel. No condition. -/
import Derived.Test.YtccadcefhfdmgaaGreatDoorProg
import Derived.Test.YtccadcefhfdmgaaGreatDoorEvL
import Derived.KernelRfl
namespace Go.Proofs.YtccadcefhfdmgaaGreatDoor.Ev
open Go Go.Proofs
theorem st3c : (onO (fnC Tryz.prog 3) false fun x => chkS fr3_8 n3_8 ob3_8 (runK Tryz.prog 3 x.nt x.W 3 (dropC 5 x.body) (ev Tryz.prog intr5 200) (frameOf fr3_5) [] (snapH n3_5 ob3_5))) = true := by kernel_rfl
end Go.Proofs.YtccadcefhfdmgaaGreatDoor.Ev
