/- One stage of function 3, reckoned by the kernel. No condition. -/
import Derived.Test.YtccadcefhfdmgaaGreatDoorProg
import Derived.Test.YtccadcefhfdmgaaGreatDoorEvL
import Derived.KernelRfl
namespace Go.Proofs.YtccadcefhfdmgaaGreatDoor.Ev
open Go Go.Proofs
theorem st3e : (onO (fnC Tryz.prog 3) false fun x => isTrueR (finF Tryz.prog (resB Tryz.prog x.res).out (ev Tryz.prog intr5 200) ((cC Tryz.prog (ccP Tryz.prog) false 3 x.nt x.W (dropC 9 x.body)).out (ev Tryz.prog intr5 200) (frameOf fr3_9) [] (snapH n3_9 ob3_9)))) = true := by kernel_rfl
end Go.Proofs.YtccadcefhfdmgaaGreatDoor.Ev
