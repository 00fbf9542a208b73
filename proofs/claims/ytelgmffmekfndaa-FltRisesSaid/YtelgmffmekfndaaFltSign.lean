/- The contracts of Neg and Abs. Condition: the word fits 64 bits. -/
import Derived.Test.YtelgmffmekfndaaFltProgB
import Derived.Test.YtelgmffmekfndaaFltSumsLaw
set_option linter.unusedVariables false
namespace Go.Proofs.Ytelgmffmekfndaa
open Go.ChangeShapes Go.WideShapes Go.ChangeAt Go.RowKit

theorem neg_any (a X : Int) (hX : bits .xor .u64 a 9223372036854775808 = X) (w : World) :
    Calls Try.prog 48 #[.int .u64 a] w fun e w' => e = .returned (.int .u64 X) ∧ w = w' := by
  go_enter Try.func48, Try.ntmps48
  go_wp2
  go_ret
  exact ⟨rfl, rfl⟩

theorem abs_any (a X : Int) (hX : bits .andNot .u64 a 9223372036854775808 = X) (w : World) :
    Calls Try.prog 47 #[.int .u64 a] w fun e w' => e = .returned (.int .u64 X) ∧ w = w' := by
  go_enter Try.func47, Try.ntmps47
  go_wp2
  go_ret
  exact ⟨rfl, rfl⟩
end Go.Proofs.Ytelgmffmekfndaa
