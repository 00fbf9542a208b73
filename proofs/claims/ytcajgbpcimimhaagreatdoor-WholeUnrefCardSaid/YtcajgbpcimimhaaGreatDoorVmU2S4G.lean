/- WholeUnref, 2 kids: a stretch of 13 rounds. Conditions: none. -/
import Derived.Test.YtcajgbpcimimhaaGreatDoorProg
import Derived.Test.YtcajgbpcimimhaaGreatDoorVmU2LG
set_option linter.unusedVariables false
namespace Go.Proofs.YtcajgbpcimimhaaGreatDoor.Vm
open Go Go.Proofs
theorem uR2s4 : Bool.casesOn (motive := fun _ => Bool) (runSeg Tryz.prog (ev Tryz.prog 6 100000) 4 10 13 uL2_4 (fun _ _ _ => false)) true false = false := by kernel_rfl
end Go.Proofs.YtcajgbpcimimhaaGreatDoor.Vm
