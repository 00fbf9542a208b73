/- WholeUnref, 0 kids: a stretch of 14 rounds. Conditions: none. -/
import Derived.Test.YtcajgbpcimimhaaGreatDoorProg
import Derived.Test.YtcajgbpcimimhaaGreatDoorVmU0LG
set_option linter.unusedVariables false
namespace Go.Proofs.YtcajgbpcimimhaaGreatDoor.Vm
open Go Go.Proofs
theorem uR0s1 : Bool.casesOn (motive := fun _ => Bool) (runSeg Tryz.prog (ev Tryz.prog 6 100000) 4 10 14 uL0_1 (fun _ _ _ => false)) true false = false := by kernel_rfl
end Go.Proofs.YtcajgbpcimimhaaGreatDoor.Vm
