/- One stage of function 5, reckoned by the kernel. No condition. -/
import Derived.Test.YtccadcefhfdmgaaGreatDoorProg
import Derived.Test.YtccadcefhfdmgaaGreatDoorEvK
import Derived.KernelRfl
namespace Go.Proofs.YtccadcefhfdmgaaGreatDoor.Ev
open Go Go.Proofs
theorem st5d : (onO (fnC Tryz.prog 5) false fun x => chkS fr5_8 n5_8 ob5_8 (runK Tryz.prog 5 x.nt x.W 1 (dropC 7 x.body) (ev Tryz.prog intr 200) (frameOf fr5_7) [] (snapH n5_7 ob5_7))) = true := by kernel_rfl
end Go.Proofs.YtccadcefhfdmgaaGreatDoor.Ev
