/- WholeWaits with off&7 = 2: a run of the evaluator in the kernel. Conditions: none. -/
import Derived.Test.YtcajgbpcimimhaaGreatDoorProg
import Derived.Test.YtcajgbpcimimhaaGreatDoorVmEvalG
set_option linter.unusedVariables false
namespace Go.Proofs.YtcajgbpcimimhaaGreatDoor.Vm
open Go Go.Proofs
theorem ww2b : Bool.casesOn (motive := fun _ => Bool)
    (start [List.replicate 8 true, List.replicate 1024 true, [false, false, true, false]]
      fun w => (ev Tryz.prog 6 100000).call 3 [argV 0 7 3, argV 1 1023 0, argV 2 3 0] w endK)
    true false = false := by kernel_rfl
end Go.Proofs.YtcajgbpcimimhaaGreatDoor.Vm
