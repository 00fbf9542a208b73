/- The walk of the law AluOrder: the law returns true at every two words and changes nothing that existed. Condition: the words fit 64 bits. -/
import Derived.Test.YtelgmffmekfndaaAluLaws
import Derived.Test.YtelgmffmekfndaaAluFit
set_option linter.unusedVariables false
namespace Go.Proofs.Ytelgmffmekfndaa
open Go.ChangeShapes Go.WideShapes Go.ChangeAt Go.RowKit

theorem odo_any (op x y v : Int) (ok : Bool) (h : ∀ w, Calls Try.prog 50 #[.int .i64 op, .int .u64 x, .int .u64 y] w fun e w' => e = .returned (.tuple #[.int .u64 v, .bool ok]) ∧ w = w') (w : World) :
    Calls Try.prog 55 #[.int .i64 op, .int .u64 x, .int .u64 y] w fun e w' => e = .returned (.int .u64 v) ∧ w = w' := by
  go_enter Try.func55, Try.ntmps55
  go_wp2_with fail
  refine (h _).mono ?_
  rintro e w1 ⟨rfl, rfl⟩
  go_wp2_with fail
  go_ret
  exact ⟨rfl, rfl⟩

theorem takes25 (a b : Int) (w : World) : Calls Try.prog 56 #[.int .i64 25, .int .u64 a, .int .u64 b] w fun e w' => e = .returned (.bool (a == b)) ∧ w = w' := by
  go_enter Try.func56, Try.ntmps56
  go_wp2_with fail
  go_ret
  exact ⟨rfl, rfl⟩
theorem takes26 (a b : Int) (w : World) : Calls Try.prog 56 #[.int .i64 26, .int .u64 a, .int .u64 b] w fun e w' => e = .returned (.bool (a != b)) ∧ w = w' := by
  go_enter Try.func56, Try.ntmps56
  go_wp2_with fail
  go_ret
  exact ⟨rfl, rfl⟩
theorem takes27 (a b : Int) (w : World) : Calls Try.prog 56 #[.int .i64 27, .int .u64 a, .int .u64 b] w fun e w' => e = .returned (.bool (decide (wrap64 a < wrap64 b))) ∧ w = w' := by
  go_enter Try.func56, Try.ntmps56
  go_wp2_with fail
  go_ret
  exact ⟨rfl, rfl⟩
theorem takes28 (a b : Int) (w : World) : Calls Try.prog 56 #[.int .i64 28, .int .u64 a, .int .u64 b] w fun e w' => e = .returned (.bool (decide (a < b))) ∧ w = w' := by
  go_enter Try.func56, Try.ntmps56
  go_wp2_with fail
  go_ret
  exact ⟨rfl, rfl⟩

/-- how the five tests can come out -/
def Five (E N L L' U U' T : Bool) : Prop :=
  (E = true ∧ N = false ∧ L = false ∧ L' = false ∧ U = false ∧ U' = false ∧ T = true) ∨
  (E = false ∧ N = true ∧ L = true ∧ L' = false ∧ U = true ∧ U' = false ∧ T = true) ∨
  (E = false ∧ N = true ∧ L = false ∧ L' = true ∧ U = true ∧ U' = false ∧ T = false) ∨
  (E = false ∧ N = true ∧ L = true ∧ L' = false ∧ U = false ∧ U' = true ∧ T = false) ∨
  (E = false ∧ N = true ∧ L = false ∧ L' = true ∧ U = false ∧ U' = true ∧ T = true)

theorem five (a b : Int) (a0 : 0 ≤ a) (a1 : a < 18446744073709551616) (b0 : 0 ≤ b) (b1 : b < 18446744073709551616) :
    Five (a == b) (a != b) (decide (wrap64 a < wrap64 b)) (decide (wrap64 b < wrap64 a)) (decide (a < b)) (decide (b < a)) (a / 9223372036854775808 == b / 9223372036854775808) := by
  unfold Five wrap64
  simp only [beq_iff_eq, beq_eq_false_iff_ne, bne_iff_ne, bne_eq_false_iff_eq, decide_eq_true_eq, decide_eq_false_iff_not, ne_eq]
  omega

set_option maxHeartbeats 1000000 in
theorem lawOrder1 (a b : Int) (hT : (a / 9223372036854775808 == b / 9223372036854775808) = true)
    (c1 : ∀ w, Calls Try.prog 55 #[.int .i64 17, .int .u64 a, .int .u64 b] w fun e w' => e = .returned (.int .u64 1) ∧ w = w')
    (c2 : ∀ w, Calls Try.prog 55 #[.int .i64 15, .int .u64 a, .int .u64 b] w fun e w' => e = .returned (.int .u64 0) ∧ w = w')
    (c3 : ∀ w, Calls Try.prog 55 #[.int .i64 15, .int .u64 b, .int .u64 a] w fun e w' => e = .returned (.int .u64 0) ∧ w = w')
    (c4 : ∀ w, Calls Try.prog 55 #[.int .i64 16, .int .u64 a, .int .u64 b] w fun e w' => e = .returned (.int .u64 0) ∧ w = w')
    (c5 : ∀ w, Calls Try.prog 55 #[.int .i64 16, .int .u64 b, .int .u64 a] w fun e w' => e = .returned (.int .u64 0) ∧ w = w')
    (c6 : ∀ w, Calls Try.prog 56 #[.int .i64 27, .int .u64 a, .int .u64 b] w fun e w' => e = .returned (.bool false) ∧ w = w')
    (c7 : ∀ w, Calls Try.prog 56 #[.int .i64 28, .int .u64 a, .int .u64 b] w fun e w' => e = .returned (.bool false) ∧ w = w')
    (c8 : ∀ w, Calls Try.prog 56 #[.int .i64 25, .int .u64 a, .int .u64 b] w fun e w' => e = .returned (.bool true) ∧ w = w')
    (c9 : ∀ w, Calls Try.prog 56 #[.int .i64 26, .int .u64 a, .int .u64 b] w fun e w' => e = .returned (.bool false) ∧ w = w') (w : World) :
    Calls Try.prog 15 #[.int .u64 a, .int .u64 b] w fun e w' => e = .returned (.bool true) ∧ Below w.heap.size w w' := by
  have C1 := Lib.hid c1
  have C2 := Lib.hid c2
  have C3 := Lib.hid c3
  have C4 := Lib.hid c4
  have C5 := Lib.hid c5
  have C6 := Lib.hid c6
  have C7 := Lib.hid c7
  have C8 := Lib.hid c8
  have C9 := Lib.hid c9
  clear c1 c2 c3 c4 c5 c6 c7 c8 c9
  go_enter Try.func15, Try.ntmps15
  go_wp2_with fail
  refine (afit_any _).mono ?_
  rintro e w1 ⟨rfl, hb1⟩
  go_wp2_with fail
  refine (C1.out _).mono ?_
  rintro e w2 ⟨rfl, rfl⟩
  go_wp2_with fail
  refine (C2.out _).mono ?_
  rintro e w2 ⟨rfl, rfl⟩
  go_wp2_with fail
  refine (C3.out _).mono ?_
  rintro e w2 ⟨rfl, rfl⟩
  go_wp2_with fail
  refine (C4.out _).mono ?_
  rintro e w2 ⟨rfl, rfl⟩
  go_wp2_with fail
  refine (C5.out _).mono ?_
  rintro e w2 ⟨rfl, rfl⟩
  go_wp2_with fail
  refine (C6.out _).mono ?_
  rintro e w2 ⟨rfl, rfl⟩
  go_wp2_with fail
  refine (C2.out _).mono ?_
  rintro e w2 ⟨rfl, rfl⟩
  go_wp2_with fail
  refine (C7.out _).mono ?_
  rintro e w2 ⟨rfl, rfl⟩
  go_wp2_with fail
  refine (C4.out _).mono ?_
  rintro e w2 ⟨rfl, rfl⟩
  go_wp2_with fail
  refine (C8.out _).mono ?_
  rintro e w2 ⟨rfl, rfl⟩
  go_wp2_with fail
  refine (C9.out _).mono ?_
  rintro e w2 ⟨rfl, rfl⟩
  go_wp2_with fail
  refine (C2.out _).mono ?_
  rintro e w2 ⟨rfl, rfl⟩
  go_wp2_with fail
  refine (C4.out _).mono ?_
  rintro e w2 ⟨rfl, rfl⟩
  go_wp2_with fail
  go_ret
  exact ⟨rfl, hb1⟩

set_option maxHeartbeats 1000000 in
theorem lawOrder2 (a b : Int) (hT : (a / 9223372036854775808 == b / 9223372036854775808) = true)
    (c1 : ∀ w, Calls Try.prog 55 #[.int .i64 17, .int .u64 a, .int .u64 b] w fun e w' => e = .returned (.int .u64 0) ∧ w = w')
    (c2 : ∀ w, Calls Try.prog 55 #[.int .i64 15, .int .u64 a, .int .u64 b] w fun e w' => e = .returned (.int .u64 1) ∧ w = w')
    (c3 : ∀ w, Calls Try.prog 55 #[.int .i64 15, .int .u64 b, .int .u64 a] w fun e w' => e = .returned (.int .u64 0) ∧ w = w')
    (c4 : ∀ w, Calls Try.prog 55 #[.int .i64 16, .int .u64 a, .int .u64 b] w fun e w' => e = .returned (.int .u64 1) ∧ w = w')
    (c5 : ∀ w, Calls Try.prog 55 #[.int .i64 16, .int .u64 b, .int .u64 a] w fun e w' => e = .returned (.int .u64 0) ∧ w = w')
    (c6 : ∀ w, Calls Try.prog 56 #[.int .i64 27, .int .u64 a, .int .u64 b] w fun e w' => e = .returned (.bool true) ∧ w = w')
    (c7 : ∀ w, Calls Try.prog 56 #[.int .i64 28, .int .u64 a, .int .u64 b] w fun e w' => e = .returned (.bool true) ∧ w = w')
    (c8 : ∀ w, Calls Try.prog 56 #[.int .i64 25, .int .u64 a, .int .u64 b] w fun e w' => e = .returned (.bool false) ∧ w = w')
    (c9 : ∀ w, Calls Try.prog 56 #[.int .i64 26, .int .u64 a, .int .u64 b] w fun e w' => e = .returned (.bool true) ∧ w = w') (w : World) :
    Calls Try.prog 15 #[.int .u64 a, .int .u64 b] w fun e w' => e = .returned (.bool true) ∧ Below w.heap.size w w' := by
  have C1 := Lib.hid c1
  have C2 := Lib.hid c2
  have C3 := Lib.hid c3
  have C4 := Lib.hid c4
  have C5 := Lib.hid c5
  have C6 := Lib.hid c6
  have C7 := Lib.hid c7
  have C8 := Lib.hid c8
  have C9 := Lib.hid c9
  clear c1 c2 c3 c4 c5 c6 c7 c8 c9
  go_enter Try.func15, Try.ntmps15
  go_wp2_with fail
  refine (afit_any _).mono ?_
  rintro e w1 ⟨rfl, hb1⟩
  go_wp2_with fail
  refine (C1.out _).mono ?_
  rintro e w2 ⟨rfl, rfl⟩
  go_wp2_with fail
  refine (C2.out _).mono ?_
  rintro e w2 ⟨rfl, rfl⟩
  go_wp2_with fail
  refine (C3.out _).mono ?_
  rintro e w2 ⟨rfl, rfl⟩
  go_wp2_with fail
  refine (C4.out _).mono ?_
  rintro e w2 ⟨rfl, rfl⟩
  go_wp2_with fail
  refine (C5.out _).mono ?_
  rintro e w2 ⟨rfl, rfl⟩
  go_wp2_with fail
  refine (C6.out _).mono ?_
  rintro e w2 ⟨rfl, rfl⟩
  go_wp2_with fail
  refine (C2.out _).mono ?_
  rintro e w2 ⟨rfl, rfl⟩
  go_wp2_with fail
  refine (C7.out _).mono ?_
  rintro e w2 ⟨rfl, rfl⟩
  go_wp2_with fail
  refine (C4.out _).mono ?_
  rintro e w2 ⟨rfl, rfl⟩
  go_wp2_with fail
  refine (C8.out _).mono ?_
  rintro e w2 ⟨rfl, rfl⟩
  go_wp2_with fail
  refine (C9.out _).mono ?_
  rintro e w2 ⟨rfl, rfl⟩
  go_wp2_with fail
  refine (C2.out _).mono ?_
  rintro e w2 ⟨rfl, rfl⟩
  go_wp2_with fail
  refine (C4.out _).mono ?_
  rintro e w2 ⟨rfl, rfl⟩
  go_wp2_with fail
  go_ret
  exact ⟨rfl, hb1⟩

set_option maxHeartbeats 1000000 in
theorem lawOrder3 (a b : Int) (hT : (a / 9223372036854775808 == b / 9223372036854775808) = false)
    (c1 : ∀ w, Calls Try.prog 55 #[.int .i64 17, .int .u64 a, .int .u64 b] w fun e w' => e = .returned (.int .u64 0) ∧ w = w')
    (c2 : ∀ w, Calls Try.prog 55 #[.int .i64 15, .int .u64 a, .int .u64 b] w fun e w' => e = .returned (.int .u64 0) ∧ w = w')
    (c3 : ∀ w, Calls Try.prog 55 #[.int .i64 15, .int .u64 b, .int .u64 a] w fun e w' => e = .returned (.int .u64 1) ∧ w = w')
    (c4 : ∀ w, Calls Try.prog 55 #[.int .i64 16, .int .u64 a, .int .u64 b] w fun e w' => e = .returned (.int .u64 1) ∧ w = w')
    (c5 : ∀ w, Calls Try.prog 55 #[.int .i64 16, .int .u64 b, .int .u64 a] w fun e w' => e = .returned (.int .u64 0) ∧ w = w')
    (c6 : ∀ w, Calls Try.prog 56 #[.int .i64 27, .int .u64 a, .int .u64 b] w fun e w' => e = .returned (.bool false) ∧ w = w')
    (c7 : ∀ w, Calls Try.prog 56 #[.int .i64 28, .int .u64 a, .int .u64 b] w fun e w' => e = .returned (.bool true) ∧ w = w')
    (c8 : ∀ w, Calls Try.prog 56 #[.int .i64 25, .int .u64 a, .int .u64 b] w fun e w' => e = .returned (.bool false) ∧ w = w')
    (c9 : ∀ w, Calls Try.prog 56 #[.int .i64 26, .int .u64 a, .int .u64 b] w fun e w' => e = .returned (.bool true) ∧ w = w') (w : World) :
    Calls Try.prog 15 #[.int .u64 a, .int .u64 b] w fun e w' => e = .returned (.bool true) ∧ Below w.heap.size w w' := by
  have C1 := Lib.hid c1
  have C2 := Lib.hid c2
  have C3 := Lib.hid c3
  have C4 := Lib.hid c4
  have C5 := Lib.hid c5
  have C6 := Lib.hid c6
  have C7 := Lib.hid c7
  have C8 := Lib.hid c8
  have C9 := Lib.hid c9
  clear c1 c2 c3 c4 c5 c6 c7 c8 c9
  go_enter Try.func15, Try.ntmps15
  go_wp2_with fail
  refine (afit_any _).mono ?_
  rintro e w1 ⟨rfl, hb1⟩
  go_wp2_with fail
  refine (C1.out _).mono ?_
  rintro e w2 ⟨rfl, rfl⟩
  go_wp2_with fail
  refine (C2.out _).mono ?_
  rintro e w2 ⟨rfl, rfl⟩
  go_wp2_with fail
  refine (C3.out _).mono ?_
  rintro e w2 ⟨rfl, rfl⟩
  go_wp2_with fail
  refine (C4.out _).mono ?_
  rintro e w2 ⟨rfl, rfl⟩
  go_wp2_with fail
  refine (C5.out _).mono ?_
  rintro e w2 ⟨rfl, rfl⟩
  go_wp2_with fail
  refine (C6.out _).mono ?_
  rintro e w2 ⟨rfl, rfl⟩
  go_wp2_with fail
  refine (C2.out _).mono ?_
  rintro e w2 ⟨rfl, rfl⟩
  go_wp2_with fail
  refine (C7.out _).mono ?_
  rintro e w2 ⟨rfl, rfl⟩
  go_wp2_with fail
  refine (C4.out _).mono ?_
  rintro e w2 ⟨rfl, rfl⟩
  go_wp2_with fail
  refine (C8.out _).mono ?_
  rintro e w2 ⟨rfl, rfl⟩
  go_wp2_with fail
  refine (C9.out _).mono ?_
  rintro e w2 ⟨rfl, rfl⟩
  go_wp2_with fail
  refine (C2.out _).mono ?_
  rintro e w2 ⟨rfl, rfl⟩
  go_wp2_with fail
  refine (C4.out _).mono ?_
  rintro e w2 ⟨rfl, rfl⟩
  go_wp2_with fail
  go_ret
  exact ⟨rfl, hb1⟩

set_option maxHeartbeats 1000000 in
theorem lawOrder4 (a b : Int) (hT : (a / 9223372036854775808 == b / 9223372036854775808) = false)
    (c1 : ∀ w, Calls Try.prog 55 #[.int .i64 17, .int .u64 a, .int .u64 b] w fun e w' => e = .returned (.int .u64 0) ∧ w = w')
    (c2 : ∀ w, Calls Try.prog 55 #[.int .i64 15, .int .u64 a, .int .u64 b] w fun e w' => e = .returned (.int .u64 1) ∧ w = w')
    (c3 : ∀ w, Calls Try.prog 55 #[.int .i64 15, .int .u64 b, .int .u64 a] w fun e w' => e = .returned (.int .u64 0) ∧ w = w')
    (c4 : ∀ w, Calls Try.prog 55 #[.int .i64 16, .int .u64 a, .int .u64 b] w fun e w' => e = .returned (.int .u64 0) ∧ w = w')
    (c5 : ∀ w, Calls Try.prog 55 #[.int .i64 16, .int .u64 b, .int .u64 a] w fun e w' => e = .returned (.int .u64 1) ∧ w = w')
    (c6 : ∀ w, Calls Try.prog 56 #[.int .i64 27, .int .u64 a, .int .u64 b] w fun e w' => e = .returned (.bool true) ∧ w = w')
    (c7 : ∀ w, Calls Try.prog 56 #[.int .i64 28, .int .u64 a, .int .u64 b] w fun e w' => e = .returned (.bool false) ∧ w = w')
    (c8 : ∀ w, Calls Try.prog 56 #[.int .i64 25, .int .u64 a, .int .u64 b] w fun e w' => e = .returned (.bool false) ∧ w = w')
    (c9 : ∀ w, Calls Try.prog 56 #[.int .i64 26, .int .u64 a, .int .u64 b] w fun e w' => e = .returned (.bool true) ∧ w = w') (w : World) :
    Calls Try.prog 15 #[.int .u64 a, .int .u64 b] w fun e w' => e = .returned (.bool true) ∧ Below w.heap.size w w' := by
  have C1 := Lib.hid c1
  have C2 := Lib.hid c2
  have C3 := Lib.hid c3
  have C4 := Lib.hid c4
  have C5 := Lib.hid c5
  have C6 := Lib.hid c6
  have C7 := Lib.hid c7
  have C8 := Lib.hid c8
  have C9 := Lib.hid c9
  clear c1 c2 c3 c4 c5 c6 c7 c8 c9
  go_enter Try.func15, Try.ntmps15
  go_wp2_with fail
  refine (afit_any _).mono ?_
  rintro e w1 ⟨rfl, hb1⟩
  go_wp2_with fail
  refine (C1.out _).mono ?_
  rintro e w2 ⟨rfl, rfl⟩
  go_wp2_with fail
  refine (C2.out _).mono ?_
  rintro e w2 ⟨rfl, rfl⟩
  go_wp2_with fail
  refine (C3.out _).mono ?_
  rintro e w2 ⟨rfl, rfl⟩
  go_wp2_with fail
  refine (C4.out _).mono ?_
  rintro e w2 ⟨rfl, rfl⟩
  go_wp2_with fail
  refine (C5.out _).mono ?_
  rintro e w2 ⟨rfl, rfl⟩
  go_wp2_with fail
  refine (C6.out _).mono ?_
  rintro e w2 ⟨rfl, rfl⟩
  go_wp2_with fail
  refine (C2.out _).mono ?_
  rintro e w2 ⟨rfl, rfl⟩
  go_wp2_with fail
  refine (C7.out _).mono ?_
  rintro e w2 ⟨rfl, rfl⟩
  go_wp2_with fail
  refine (C4.out _).mono ?_
  rintro e w2 ⟨rfl, rfl⟩
  go_wp2_with fail
  refine (C8.out _).mono ?_
  rintro e w2 ⟨rfl, rfl⟩
  go_wp2_with fail
  refine (C9.out _).mono ?_
  rintro e w2 ⟨rfl, rfl⟩
  go_wp2_with fail
  refine (C2.out _).mono ?_
  rintro e w2 ⟨rfl, rfl⟩
  go_wp2_with fail
  refine (C4.out _).mono ?_
  rintro e w2 ⟨rfl, rfl⟩
  go_wp2_with fail
  go_ret
  exact ⟨rfl, hb1⟩

set_option maxHeartbeats 1000000 in
theorem lawOrder5 (a b : Int) (hT : (a / 9223372036854775808 == b / 9223372036854775808) = true)
    (c1 : ∀ w, Calls Try.prog 55 #[.int .i64 17, .int .u64 a, .int .u64 b] w fun e w' => e = .returned (.int .u64 0) ∧ w = w')
    (c2 : ∀ w, Calls Try.prog 55 #[.int .i64 15, .int .u64 a, .int .u64 b] w fun e w' => e = .returned (.int .u64 0) ∧ w = w')
    (c3 : ∀ w, Calls Try.prog 55 #[.int .i64 15, .int .u64 b, .int .u64 a] w fun e w' => e = .returned (.int .u64 1) ∧ w = w')
    (c4 : ∀ w, Calls Try.prog 55 #[.int .i64 16, .int .u64 a, .int .u64 b] w fun e w' => e = .returned (.int .u64 0) ∧ w = w')
    (c5 : ∀ w, Calls Try.prog 55 #[.int .i64 16, .int .u64 b, .int .u64 a] w fun e w' => e = .returned (.int .u64 1) ∧ w = w')
    (c6 : ∀ w, Calls Try.prog 56 #[.int .i64 27, .int .u64 a, .int .u64 b] w fun e w' => e = .returned (.bool false) ∧ w = w')
    (c7 : ∀ w, Calls Try.prog 56 #[.int .i64 28, .int .u64 a, .int .u64 b] w fun e w' => e = .returned (.bool false) ∧ w = w')
    (c8 : ∀ w, Calls Try.prog 56 #[.int .i64 25, .int .u64 a, .int .u64 b] w fun e w' => e = .returned (.bool false) ∧ w = w')
    (c9 : ∀ w, Calls Try.prog 56 #[.int .i64 26, .int .u64 a, .int .u64 b] w fun e w' => e = .returned (.bool true) ∧ w = w') (w : World) :
    Calls Try.prog 15 #[.int .u64 a, .int .u64 b] w fun e w' => e = .returned (.bool true) ∧ Below w.heap.size w w' := by
  have C1 := Lib.hid c1
  have C2 := Lib.hid c2
  have C3 := Lib.hid c3
  have C4 := Lib.hid c4
  have C5 := Lib.hid c5
  have C6 := Lib.hid c6
  have C7 := Lib.hid c7
  have C8 := Lib.hid c8
  have C9 := Lib.hid c9
  clear c1 c2 c3 c4 c5 c6 c7 c8 c9
  go_enter Try.func15, Try.ntmps15
  go_wp2_with fail
  refine (afit_any _).mono ?_
  rintro e w1 ⟨rfl, hb1⟩
  go_wp2_with fail
  refine (C1.out _).mono ?_
  rintro e w2 ⟨rfl, rfl⟩
  go_wp2_with fail
  refine (C2.out _).mono ?_
  rintro e w2 ⟨rfl, rfl⟩
  go_wp2_with fail
  refine (C3.out _).mono ?_
  rintro e w2 ⟨rfl, rfl⟩
  go_wp2_with fail
  refine (C4.out _).mono ?_
  rintro e w2 ⟨rfl, rfl⟩
  go_wp2_with fail
  refine (C5.out _).mono ?_
  rintro e w2 ⟨rfl, rfl⟩
  go_wp2_with fail
  refine (C6.out _).mono ?_
  rintro e w2 ⟨rfl, rfl⟩
  go_wp2_with fail
  refine (C2.out _).mono ?_
  rintro e w2 ⟨rfl, rfl⟩
  go_wp2_with fail
  refine (C7.out _).mono ?_
  rintro e w2 ⟨rfl, rfl⟩
  go_wp2_with fail
  refine (C4.out _).mono ?_
  rintro e w2 ⟨rfl, rfl⟩
  go_wp2_with fail
  refine (C8.out _).mono ?_
  rintro e w2 ⟨rfl, rfl⟩
  go_wp2_with fail
  refine (C9.out _).mono ?_
  rintro e w2 ⟨rfl, rfl⟩
  go_wp2_with fail
  refine (C2.out _).mono ?_
  rintro e w2 ⟨rfl, rfl⟩
  go_wp2_with fail
  refine (C4.out _).mono ?_
  rintro e w2 ⟨rfl, rfl⟩
  go_wp2_with fail
  go_ret
  exact ⟨rfl, hb1⟩

theorem lawOrder_of (a b : Int) (E N L L' U U' T : Bool) (h5 : Five E N L L' U U' T) (hT : (a / 9223372036854775808 == b / 9223372036854775808) = T)
    (c1 : ∀ w, Calls Try.prog 55 #[.int .i64 17, .int .u64 a, .int .u64 b] w fun e w' => e = .returned (.int .u64 (Alu.bit E)) ∧ w = w')
    (c2 : ∀ w, Calls Try.prog 55 #[.int .i64 15, .int .u64 a, .int .u64 b] w fun e w' => e = .returned (.int .u64 (Alu.bit L)) ∧ w = w')
    (c3 : ∀ w, Calls Try.prog 55 #[.int .i64 15, .int .u64 b, .int .u64 a] w fun e w' => e = .returned (.int .u64 (Alu.bit L')) ∧ w = w')
    (c4 : ∀ w, Calls Try.prog 55 #[.int .i64 16, .int .u64 a, .int .u64 b] w fun e w' => e = .returned (.int .u64 (Alu.bit U)) ∧ w = w')
    (c5 : ∀ w, Calls Try.prog 55 #[.int .i64 16, .int .u64 b, .int .u64 a] w fun e w' => e = .returned (.int .u64 (Alu.bit U')) ∧ w = w')
    (c6 : ∀ w, Calls Try.prog 56 #[.int .i64 27, .int .u64 a, .int .u64 b] w fun e w' => e = .returned (.bool L) ∧ w = w')
    (c7 : ∀ w, Calls Try.prog 56 #[.int .i64 28, .int .u64 a, .int .u64 b] w fun e w' => e = .returned (.bool U) ∧ w = w')
    (c8 : ∀ w, Calls Try.prog 56 #[.int .i64 25, .int .u64 a, .int .u64 b] w fun e w' => e = .returned (.bool E) ∧ w = w')
    (c9 : ∀ w, Calls Try.prog 56 #[.int .i64 26, .int .u64 a, .int .u64 b] w fun e w' => e = .returned (.bool N) ∧ w = w') (w : World) :
    Calls Try.prog 15 #[.int .u64 a, .int .u64 b] w fun e w' => e = .returned (.bool true) ∧ Below w.heap.size w w' := by
  rcases h5 with h5 | h5 | h5 | h5 | h5
  · obtain ⟨rfl, rfl, rfl, rfl, rfl, rfl, rfl⟩ := h5
    exact lawOrder1 a b hT c1 c2 c3 c4 c5 c6 c7 c8 c9 w
  · obtain ⟨rfl, rfl, rfl, rfl, rfl, rfl, rfl⟩ := h5
    exact lawOrder2 a b hT c1 c2 c3 c4 c5 c6 c7 c8 c9 w
  · obtain ⟨rfl, rfl, rfl, rfl, rfl, rfl, rfl⟩ := h5
    exact lawOrder3 a b hT c1 c2 c3 c4 c5 c6 c7 c8 c9 w
  · obtain ⟨rfl, rfl, rfl, rfl, rfl, rfl, rfl⟩ := h5
    exact lawOrder4 a b hT c1 c2 c3 c4 c5 c6 c7 c8 c9 w
  · obtain ⟨rfl, rfl, rfl, rfl, rfl, rfl, rfl⟩ := h5
    exact lawOrder5 a b hT c1 c2 c3 c4 c5 c6 c7 c8 c9 w

theorem lawOrder (a b : Int) (a0 : 0 ≤ a) (a1 : a < 18446744073709551616) (b0 : 0 ≤ b) (b1 : b < 18446744073709551616) (w : World) :
    Calls Try.prog 15 #[.int .u64 a, .int .u64 b] w fun e w' => e = .returned (.bool true) ∧ Below w.heap.size w w' :=
  lawOrder_of a b _ _ _ _ _ _ _ (five a b a0 a1 b0 b1) rfl (odo_any _ _ _ _ _ (reck17 a b a0 a1 b0 b1)) (odo_any _ _ _ _ _ (reck15 a b a0 a1 b0 b1)) (odo_any _ _ _ _ _ (reck15 b a b0 b1 a0 a1)) (odo_any _ _ _ _ _ (reck16 a b a0 a1 b0 b1)) (odo_any _ _ _ _ _ (reck16 b a b0 b1 a0 a1))
    (takes27 a b) (takes28 a b) (takes25 a b) (takes26 a b) w
end Go.Proofs.Ytelgmffmekfndaa
