/- The walk of the law AluBits: the law returns true at every two words and changes nothing that existed. Condition: the words fit 64 bits. -/
import Derived.Test.YtelgmffmekfndaaAluLaws
import Derived.Test.YtelgmffmekfndaaAluFit
set_option linter.unusedVariables false
namespace Go.Proofs.Ytelgmffmekfndaa
open Go.ChangeShapes Go.WideShapes Go.ChangeAt Go.RowKit

theorem bdo_any (op x y v : Int) (ok : Bool) (h : ∀ w, Calls Try.prog 50 #[.int .i64 op, .int .u64 x, .int .u64 y] w fun e w' => e = .returned (.tuple #[.int .u64 v, .bool ok]) ∧ w = w') (w : World) :
    Calls Try.prog 54 #[.int .i64 op, .int .u64 x, .int .u64 y] w fun e w' => e = .returned (.int .u64 v) ∧ w = w' := by
  go_enter Try.func54, Try.ntmps54
  go_wp2_with fail
  refine (h _).mono ?_
  rintro e w1 ⟨rfl, rfl⟩
  go_wp2_with fail
  go_ret
  exact ⟨rfl, rfl⟩

set_option maxHeartbeats 1000000 in
theorem lawBits (a b : Int) (a0 : 0 ≤ a) (a1 : a < 18446744073709551616) (b0 : 0 ≤ b) (b1 : b < 18446744073709551616) (w : World) :
    Calls Try.prog 14 #[.int .u64 a, .int .u64 b] w fun e w' => e = .returned (.bool true) ∧ Below w.heap.size w w' := by
  obtain ⟨A, O, X, A0, O0, X0, e1, e2, e3, e4, e5, e6, e7⟩ := Alu.bits_law a b a0 a1 b0 b1
  have s0 : 0 ≤ IntKind.u64.wrap (a + b) ∧ IntKind.u64.wrap (a + b) < 18446744073709551616 := by rw [IntKind.wrap_u64]; omega
  have t0 : 0 ≤ IntKind.u64.wrap (a + a) ∧ IntKind.u64.wrap (a + a) < 18446744073709551616 := by rw [IntKind.wrap_u64]; omega
  have c1 := reck9 a b a0 a1 b0 b1
  have c2 := reck10 a b a0 a1 b0 b1
  have c3 := reck11 a b a0 a1 b0 b1
  have c4 := reck11 A X A0.1 A0.2 X0.1 X0.2
  have c5 := reck9 A X A0.1 A0.2 X0.1 X0.2
  have c6 := reck11 X b X0.1 X0.2 b0 b1
  have c7 := reck4 a b a0 a1 b0 b1
  have c8 := reck5 (IntKind.u64.wrap (a + b)) b s0.1 s0.2 b0 b1
  have c9 := reck4 A O A0.1 A0.2 O0.1 O0.2
  have c10 := reck6 a 3 a0 a1 (by omega) (by omega)
  have c11 := reck4 a a a0 a1 a0 a1
  have c12 := reck4 a (IntKind.u64.wrap (a + a)) a0 a1 t0.1 t0.2
  rw [e1] at c1
  rw [e2] at c2
  rw [e3] at c3
  rw [e4] at c4
  rw [e5] at c5
  rw [e6] at c6
  rw [Alu.sub_back a b a0 a1] at c8
  rw [e7] at c9
  rw [Alu.thrice] at c12
  generalize IntKind.u64.wrap (a * 3) = T3 at *
  generalize IntKind.u64.wrap (a + a) = T2 at *
  generalize IntKind.u64.wrap (a + b) = S at *
  have C1 := Lib.hid (bdo_any _ _ _ _ _ c1)
  have C2 := Lib.hid (bdo_any _ _ _ _ _ c2)
  have C3 := Lib.hid (bdo_any _ _ _ _ _ c3)
  have C4 := Lib.hid (bdo_any _ _ _ _ _ c4)
  have C5 := Lib.hid (bdo_any _ _ _ _ _ c5)
  have C6 := Lib.hid (bdo_any _ _ _ _ _ c6)
  have C7 := Lib.hid (bdo_any _ _ _ _ _ c7)
  have C8 := Lib.hid (bdo_any _ _ _ _ _ c8)
  have C9 := Lib.hid (bdo_any _ _ _ _ _ c9)
  have C10 := Lib.hid (bdo_any _ _ _ _ _ c10)
  have C11 := Lib.hid (bdo_any _ _ _ _ _ c11)
  have C12 := Lib.hid (bdo_any _ _ _ _ _ c12)
  clear c1 c2 c3 c4 c5 c6 c7 c8 c9 c10 c11 c12 e1 e2 e3 e4 e5 e6 e7
  go_enter Try.func14, Try.ntmps14
  go_wp2_with fail
  refine (afit_any _).mono ?_
  rintro e w1 ⟨rfl, hb1⟩
  go_wp2_with fail
  refine (C1.out _).mono ?_
  rintro e w2 ⟨rfl, rfl⟩
  go_wp2_with fail
  refine (C2.out _).mono ?_
  rintro e w2 ⟨rfl, rfl⟩
  go_wp2_with fail
  refine (C3.out _).mono ?_
  rintro e w2 ⟨rfl, rfl⟩
  go_wp2_with fail
  refine (C4.out _).mono ?_
  rintro e w2 ⟨rfl, rfl⟩
  go_wp2_with fail
  refine (C5.out _).mono ?_
  rintro e w2 ⟨rfl, rfl⟩
  go_wp2_with fail
  refine (C6.out _).mono ?_
  rintro e w2 ⟨rfl, rfl⟩
  go_wp2_with fail
  refine (C7.out _).mono ?_
  rintro e w2 ⟨rfl, rfl⟩
  go_wp2_with fail
  refine (C8.out _).mono ?_
  rintro e w2 ⟨rfl, rfl⟩
  go_wp2_with fail
  refine (C9.out _).mono ?_
  rintro e w2 ⟨rfl, rfl⟩
  go_wp2_with fail
  refine (C7.out _).mono ?_
  rintro e w2 ⟨rfl, rfl⟩
  go_wp2_with fail
  refine (C10.out _).mono ?_
  rintro e w2 ⟨rfl, rfl⟩
  go_wp2_with fail
  refine (C11.out _).mono ?_
  rintro e w2 ⟨rfl, rfl⟩
  go_wp2_with fail
  refine (C12.out _).mono ?_
  rintro e w2 ⟨rfl, rfl⟩
  go_wp2_with fail
  go_ret
  exact ⟨rfl, hb1⟩
end Go.Proofs.Ytelgmffmekfndaa
