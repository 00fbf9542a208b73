/- The contract of the examples in the laws of alu: they hold. No conditions. -/
import Derived.Test.YtelgmffmekfndaaAluIntsG
set_option linter.unusedVariables false
namespace Go.Proofs.Ytelgmffmekfndaa
open Go.ChangeShapes Go.WideShapes Go.ChangeAt Go.RowKit

theorem place_fit (w : World) : Calls Try.prog 60 #[.int .u64 64, .int .i32 (-4), .int .i64 4] w fun e w' => e = .returned (.tuple #[.int .i64 60, .bool true]) ∧ w = w' := by
  have h : IntKind.u64.wrap (64 + IntKind.u64.wrap (-4)) = 60 := by decide
  go_enter Try.func60, Try.ntmps60
  go_wp2_with fail
  exact bodyPost_ret (v := .tuple #[.int .i64 60, .bool true]) (by simp [results, Try.results60, go_sem]) rfl ⟨rfl, rfl⟩

theorem afit_any (w : World) : Calls Try.prog 49 #[] w fun e w' => e = .returned (.bool true) ∧ Below w.heap.size w w' := by
  have hq := reck7_zero 7 (by omega) (by omega)
  have HQ := Lib.hid hq
  clear hq
  go_enter Try.func49, Try.ntmps49
  go_wp2_with fail
  refine (HQ.out _).mono ?_
  rintro e w1 ⟨rfl, rfl⟩
  go_wp2_with fail
  refine (place_fit _).mono ?_
  rintro e w1 ⟨rfl, rfl⟩
  go_wp2_with fail
  go_ret
  refine ⟨rfl, ?_⟩
  go_light
  (repeat (first | exact Below.refl _ _ | refine below_drewN ?_ _ | refine Below.drew ?_))
end Go.Proofs.Ytelgmffmekfndaa
