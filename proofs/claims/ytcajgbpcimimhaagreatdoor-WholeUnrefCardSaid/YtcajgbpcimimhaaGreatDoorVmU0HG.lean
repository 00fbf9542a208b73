/- WholeUnref, 0 kids: the run up to the main loop. Conditions: none. -/
import Derived.Test.YtcajgbpcimimhaaGreatDoorProg
import Derived.Test.YtcajgbpcimimhaaGreatDoorVmU0LG
set_option linter.unusedVariables false
namespace Go.Proofs.YtcajgbpcimimhaaGreatDoor.Vm
open Go Go.Proofs
theorem uR0h : Bool.casesOn (motive := fun _ => Bool) (start [List.replicate 32 true, List.replicate 4 true] fun w => runHead Tryz.prog (ev Tryz.prog 6 100000) 4 10 uL0_0 [argV 0 31 0, argV 1 3 1] w) true false = false := by kernel_rfl
end Go.Proofs.YtcajgbpcimimhaaGreatDoor.Vm
