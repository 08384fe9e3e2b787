/- One stage of function 5, reckoned by the kernel. No condition. -/
import Derived.Test.YtccadcefhfdmgaaGreatDoorProg
import Derived.Test.YtccadcefhfdmgaaGreatDoorEvK
import Derived.KernelRfl
namespace Go.Proofs.YtccadcefhfdmgaaGreatDoor.Ev
open Go Go.Proofs
theorem st5c : (onO (fnC Tryz.prog 5) false fun x => chkS fr5_7 n5_7 ob5_7 (runK Tryz.prog 5 x.nt x.W 2 (dropC 5 x.body) (ev Tryz.prog intr 200) (frameOf fr5_5) [] (snapH n5_5 ob5_5))) = true := by kernel_rfl
end Go.Proofs.YtccadcefhfdmgaaGreatDoor.Ev
