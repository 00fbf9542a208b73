/- WholeUnref, 1 kids: a stretch of 11 rounds. Conditions: none. -/
import Derived.Test.YtcajgbpcimimhaaGreatDoorProg
import Derived.Test.YtcajgbpcimimhaaGreatDoorVmU1LG
set_option linter.unusedVariables false
namespace Go.Proofs.YtcajgbpcimimhaaGreatDoor.Vm
open Go Go.Proofs
theorem uR1s1 : Bool.casesOn (motive := fun _ => Bool) (runSeg Tryz.prog (ev Tryz.prog 6 100000) 4 10 11 uL1_1 (fun c => tst uL1_2 c.m c.ex)) true false = false := by kernel_rfl
end Go.Proofs.YtcajgbpcimimhaaGreatDoor.Vm
