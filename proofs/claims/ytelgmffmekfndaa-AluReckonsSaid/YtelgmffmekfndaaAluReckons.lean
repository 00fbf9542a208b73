/- The walk of the law AluReckons: the law returns true at every operation and two words and changes nothing that existed. Condition: the numbers fit their kinds. -/
import Derived.Test.YtelgmffmekfndaaAluAll
import Derived.Test.YtelgmffmekfndaaAluFit
set_option linter.unusedVariables false
namespace Go.Proofs.Ytelgmffmekfndaa
open Go.ChangeShapes Go.WideShapes Go.ChangeAt Go.RowKit

set_option maxHeartbeats 1000000 in
theorem lawReckons (op a b : Int) (o0 : -9223372036854775808 ≤ op) (o1 : op ≤ 9223372036854775807) (a0 : 0 ≤ a) (a1 : a < 18446744073709551616) (b0 : 0 ≤ b) (b1 : b < 18446744073709551616) (w : World) :
    Calls Try.prog 11 #[.int .i64 op, .int .u64 a, .int .u64 b] w fun e w' => e = .returned (.bool true) ∧ Below w.heap.size w w' := by
  obtain ⟨x, ok, hp, hr⟩ := alike op a b a0 a1 b0 b1
  obtain ⟨z, has, hq, hs⟩ := alike (op.tmod 42 % 42 + 1) a b a0 a1 b0 b1
  have hm : -42 < op.tmod 42 ∧ op.tmod 42 < 42 := by
    have h1 : (op.tmod 42).natAbs < 42 := by rw [Int.natAbs_tmod]; exact Nat.mod_lt _ (by decide)
    omega
  have hm2 : 0 ≤ (op.tmod 42 + 42).tmod 42 ∧ (op.tmod 42 + 42).tmod 42 < 42 := by
    rw [Int.tmod_eq_emod_of_nonneg (by omega)]; omega
  have HP := Lib.hid hp
  have HR := Lib.hid hr
  have HQ := Lib.hid hq
  have HS := Lib.hid hs
  clear hp hr hq hs
  go_enter Try.func11, Try.ntmps11
  go_wp2_with fail
  refine (afit_any _).mono ?_
  rintro e w1 ⟨rfl, hb1⟩
  go_wp2_with fail
  refine (HP.out _).mono ?_
  rintro e w2 ⟨rfl, hb2⟩
  go_wp2_with fail
  refine (HR.out _).mono ?_
  rintro e w3 ⟨rfl, hb3⟩
  go_wp2_with fail
  refine (HQ.out _).mono ?_
  rintro e w4 ⟨rfl, hb4⟩
  go_wp2_with fail
  refine (HS.out _).mono ?_
  rintro e w5 ⟨rfl, hb5⟩
  go_wp2_with fail
  all_goals
    go_ret
    refine ⟨rfl, ?_⟩
    have z1 := hb1.size
    have z2 := hb2.size
    have z3 := hb3.size
    have z4 := hb4.size
    exact ((((hb1.trans (hb2.mono (by omega))).trans (hb3.mono (by omega))).trans (hb4.mono (by omega))).trans (hb5.mono (by omega)))
end Go.Proofs.Ytelgmffmekfndaa
