/- One stage of function 3, reckoned by the kernel. No condition. -/
import Derived.Test.YtccadcefhfdmgaaGreatDoorProg
import Derived.Test.YtccadcefhfdmgaaGreatDoorEvL
import Derived.KernelRfl
namespace Go.Proofs.YtccadcefhfdmgaaGreatDoor.Ev
open Go Go.Proofs
theorem st3a : (onO (fnC Tryz.prog 3) false fun x => chkS fr3_4 n3_4 ob3_4 (runK Tryz.prog 3 x.nt x.W 4 x.body (ev Tryz.prog intr5 200) (frameOf []) [] (snapH 0 []))) = true := by kernel_rfl
end Go.Proofs.YtccadcefhfdmgaaGreatDoor.Ev
