/- WholeUnref, 3 kids: a stretch of 11 rounds. Conditions: none. -/
import Derived.Test.YtcajgbpcimimhaaGreatDoorProg
import Derived.Test.YtcajgbpcimimhaaGreatDoorVmU3LG
set_option linter.unusedVariables false
namespace Go.Proofs.YtcajgbpcimimhaaGreatDoor.Vm
open Go Go.Proofs
theorem uR3s2 : Bool.casesOn (motive := fun _ => Bool) (runSeg Tryz.prog (ev Tryz.prog 6 100000) 4 10 11 uL3_2 (fun c => tst uL3_3 c.m c.ex)) true false = false := by kernel_rfl
end Go.Proofs.YtcajgbpcimimhaaGreatDoor.Vm
