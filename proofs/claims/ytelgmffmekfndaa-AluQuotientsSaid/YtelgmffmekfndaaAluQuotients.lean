/- The walk of the law AluQuotients: the law returns true at every two words and changes nothing that existed. Condition: the words fit 64 bits. -/
import Derived.Test.YtelgmffmekfndaaAluLaws
import Derived.Test.YtelgmffmekfndaaAluFit
set_option linter.unusedVariables false
namespace Go.Proofs.Ytelgmffmekfndaa
open Go.ChangeShapes Go.WideShapes Go.ChangeAt Go.RowKit

theorem great_any (x : Int) (x0 : 0 ≤ x) (x1 : x < 18446744073709551616) (w : World) :
    Calls Try.prog 52 #[.int .u64 x] w fun e w' => e = .returned (.int .u64 (Alu.size x)) ∧ w = w' := by
  by_cases h : x < 9223372036854775808
  · have e1 : Alu.size x = x := by unfold Alu.size; rw [if_pos h]
    have e2 : wrap64 x = x := Alu.wrap_pos x0 h
    have e3 : ¬ wrap64 x < 0 := by omega
    rw [e1]
    go_enter Try.func52, Try.ntmps52
    go_wp2_with fail
    all_goals first | omega | (go_ret; exact ⟨rfl, rfl⟩)
  · have e1 : Alu.size x = 18446744073709551616 - x := by unfold Alu.size; rw [if_neg h]
    have e2 : wrap64 x = -(18446744073709551616 - x) := Alu.wrap_neg (by omega) x1
    have e3 : IntKind.u64.wrap (-x) = 18446744073709551616 - x := by rw [IntKind.wrap_u64]; omega
    rw [e1]
    go_enter Try.func52, Try.ntmps52
    go_wp2_with fail
    all_goals first | omega | (go_ret; exact ⟨rfl, rfl⟩)

set_option maxHeartbeats 1000000 in
theorem lawQuotients (a b : Int) (a0 : 0 ≤ a) (a1 : a < 18446744073709551616) (b0 : 0 ≤ b) (b1 : b < 18446744073709551616) (w : World) :
    Calls Try.prog 12 #[.int .u64 a, .int .u64 b] w fun e w' => e = .returned (.bool true) ∧ Below w.heap.size w w' := by
  by_cases z : b = 0
  · subst z
    have h7 := reck7_zero a a0 a1
    have h8 := reck8_zero a a0 a1
    have H7 := Lib.hid h7
    have H8 := Lib.hid h8
    clear h7 h8
    go_enter Try.func12, Try.ntmps12
    go_wp2_with fail
    refine (afit_any _).mono ?_
    rintro e w1 ⟨rfl, hb1⟩
    go_wp2_with fail
    refine (H7.out _).mono ?_
    rintro e w2 ⟨rfl, rfl⟩
    go_wp2_with fail
    refine (H8.out _).mono ?_
    rintro e w2 ⟨rfl, rfl⟩
    go_wp2_with fail
    go_ret
    exact ⟨rfl, hb1⟩
  · have hz : (b == 0) = false := beq_eq_false_iff_ne.2 z
    have h7 := reck7 a b a0 a1 (by omega) b1
    have h8 := reck8 a b a0 a1 (by omega) b1
    have e1 := Alu.quo_back a0 a1 b0 b1
    obtain ⟨e2, e3⟩ := Alu.rem_less a0 a1 (show 0 < b by omega) b1
    have r0 : 0 ≤ IntKind.u64.wrap ((wrap64 a).tmod (wrap64 b)) ∧ IntKind.u64.wrap ((wrap64 a).tmod (wrap64 b)) < 18446744073709551616 := by rw [IntKind.wrap_u64]; omega
    generalize IntKind.u64.wrap ((wrap64 a).tmod (wrap64 b)) = R at *
    generalize IntKind.u64.wrap ((wrap64 a).tdiv (wrap64 b)) = Q at *
    have s1 := great_any R r0.1 r0.2
    have s2 := great_any b b0 b1
    generalize Alu.size R = SR at *
    generalize Alu.size b = SB at *
    have H7 := Lib.hid h7
    have H8 := Lib.hid h8
    have S1 := Lib.hid s1
    have S2 := Lib.hid s2
    clear h7 h8 s1 s2
    have e3 : (R == 0) = false → R / 9223372036854775808 = a / 9223372036854775808 := by
      intro h
      rcases e3 with e3 | e3
      · subst e3; exact absurd h (by decide)
      · exact e3
    cases hr : (R == 0)
    all_goals
      try (have e4 := e3 hr)
      clear e3
      go_enter Try.func12, Try.ntmps12
      go_wp2_with fail
      refine (afit_any _).mono ?_
      rintro e w1 ⟨rfl, hb1⟩
      go_wp2_with fail
      refine (H7.out _).mono ?_
      rintro e w2 ⟨rfl, rfl⟩
      go_wp2_with fail
      refine (H8.out _).mono ?_
      rintro e w2 ⟨rfl, rfl⟩
      go_wp2_with fail
      refine (S1.out _).mono ?_
      rintro e w2 ⟨rfl, rfl⟩
      go_wp2_with fail
      refine (S2.out _).mono ?_
      rintro e w2 ⟨rfl, rfl⟩
      go_wp2_with fail
      go_ret
      exact ⟨rfl, hb1⟩
end Go.Proofs.Ytelgmffmekfndaa
