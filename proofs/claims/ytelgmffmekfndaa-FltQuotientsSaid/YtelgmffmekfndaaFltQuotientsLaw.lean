/- The walk of the law FltQuotients: the law returns true at every two words and changes nothing that existed. Condition: the words fit 64 bits. -/
import Derived.Test.YtelgmffmekfndaaFltProgB
import Derived.Test.YtelgmffmekfndaaFltDivC
import Derived.Test.YtelgmffmekfndaaFltSqrtB
set_option linter.unusedVariables false
namespace Go.Proofs.Ytelgmffmekfndaa
open Go.ChangeShapes Go.WideShapes Go.ChangeAt Go.RowKit
open Fl (numOf nanW exf fr)

set_option maxHeartbeats 1000000 in
theorem lawQuotients (a b : Int) (a0 : 0 ≤ a) (a1 : a < 18446744073709551616) (b0 : 0 ≤ b) (b1 : b < 18446744073709551616) (w : World) :
    Calls Try.prog 5 #[.int .u64 a, .int .u64 b] w fun e w' => e = .returned (.bool true) ∧ Below w.heap.size w w' := by
  generalize hr1 : numOf (Ieee.double.div a.toNat b.toNat) = R1
  have K1 := Lib.hid hr1
  clear hr1
  generalize hr2 : numOf (Ieee.double.sqrt a.toNat) = R2
  have K2 := Lib.hid hr2
  clear hr2
  go_enter Try.func5, Try.ntmps5
  go_wp2_with fail
  refine (fit_any _).mono ?_
  rintro e w1 ⟨rfl, hb1⟩
  go_wp2_with fail
  refine (div_any a b a0 a1 b0 b1 _).mono ?_
  rw [K1.out]
  rintro e w2 ⟨rfl, hb2⟩
  go_wp2_with fail
  refine (refdiv_any a b a0 a1 b0 b1 _).mono ?_
  rw [K1.out]
  rintro e w3 ⟨rfl, hb3⟩
  go_wp2_with fail
  refine (sqrt_any a a0 a1 _).mono ?_
  rw [K2.out]
  rintro e w4 ⟨rfl, hb4⟩
  go_wp2_with fail
  refine (refsqrt_any a a0 a1 _).mono ?_
  rw [K2.out]
  rintro e w5 ⟨rfl, hb5⟩
  go_wp2_with fail
  go_ret
  refine ⟨rfl, ?_⟩
  have s1 := hb1.size
  have s2 := hb2.size
  have s3 := hb3.size
  have s4 := hb4.size
  exact ((((hb1.trans (hb2.mono (by omega))).trans (hb3.mono (by omega))).trans (hb4.mono (by omega))).trans (hb5.mono (by omega)))
end Go.Proofs.Ytelgmffmekfndaa
