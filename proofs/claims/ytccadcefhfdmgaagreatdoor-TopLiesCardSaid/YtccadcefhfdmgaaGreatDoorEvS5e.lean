/- One stage of function 5, reckoned by the kernel. No condition. -/
import Derived.Test.YtccadcefhfdmgaaGreatDoorProg
import Derived.Test.YtccadcefhfdmgaaGreatDoorEvK
import Derived.KernelRfl
namespace Go.Proofs.YtccadcefhfdmgaaGreatDoor.Ev
open Go Go.Proofs
theorem st5e : (onO (fnC Tryz.prog 5) false fun x => isPtrR (finF Tryz.prog (resB Tryz.prog x.res).out (ev Tryz.prog intr 200) ((cC Tryz.prog (ccP Tryz.prog) false 5 x.nt x.W (dropC 8 x.body)).out (ev Tryz.prog intr 200) (frameOf fr5_8) [] (snapH n5_8 ob5_8)))) = true := by kernel_rfl
end Go.Proofs.YtccadcefhfdmgaaGreatDoor.Ev
