/- The contracts of alu.Reckon and of the reference's at the operations on whole numbers. Conditions: the words fit 64 bits. The contracts of alu's quotient and of the reference's helpers. Conditions: the numbers fit their kinds. The contracts of alu.Reckon and of the reference's at quotients, rests, the shift that keeps the sign, and below with a sign. Conditions: the words fit 64 bits. -/
import Derived.Test.YtelgmffmekfndaaFltOrdG
import Derived.Test.YtelgmffmekfndaaAluLawG
set_option linter.unusedVariables false
namespace Go.Proofs.Ytelgmffmekfndaa
open Go.ChangeShapes Go.WideShapes Go.ChangeAt Go.RowKit

theorem truth_any (t : Bool) (w : World) : Calls Try.prog 75 #[.bool t] w fun e w' => e = .returned (.int .u64 (Alu.bit t)) ∧ w = w' := by
  cases t
  all_goals
    go_enter Try.func75, Try.ntmps75
    go_wp2
    go_ret
    exact ⟨rfl, rfl⟩
theorem rtruth_any (t : Bool) (w : World) : Calls Try.prog 78 #[.bool t] w fun e w' => e = .returned (.int .u64 (Alu.bit t)) ∧ w = w' := by
  cases t
  all_goals
    go_enter Try.func78, Try.ntmps78
    go_wp2
    go_ret
    exact ⟨rfl, rfl⟩

set_option maxHeartbeats 1000000 in
theorem reck4 (a b : Int) (a0 : 0 ≤ a) (a1 : a < 18446744073709551616) (b0 : 0 ≤ b) (b1 : b < 18446744073709551616) (w : World) :
    Calls Try.prog 50 #[.int .i64 4, .int .u64 a, .int .u64 b] w fun e w' => e = .returned (.tuple #[.int .u64 (IntKind.u64.wrap (a + b)), .bool true]) ∧ w = w' := by
  go_enter Try.func50, Try.ntmps50
  go_wp2_with fail
  exact bodyPost_ret (v := .tuple #[.int .u64 (IntKind.u64.wrap (a + b)), .bool true]) (by simp [results, Try.results50, go_sem]) rfl ⟨rfl, rfl⟩

set_option maxHeartbeats 1000000 in
theorem rreck4 (a b : Int) (a0 : 0 ≤ a) (a1 : a < 18446744073709551616) (b0 : 0 ≤ b) (b1 : b < 18446744073709551616) (w : World) :
    Calls Try.prog 51 #[.int .i64 4, .int .u64 a, .int .u64 b] w fun e w' => e = .returned (.tuple #[.int .u64 (IntKind.u64.wrap (a + b)), .bool true]) ∧ w = w' := by
  go_enter Try.func51, Try.ntmps51
  go_wp2_with fail
  exact bodyPost_ret (v := .tuple #[.int .u64 (IntKind.u64.wrap (a + b)), .bool true]) (by simp [results, Try.results51, go_sem]) rfl ⟨rfl, rfl⟩

set_option maxHeartbeats 1000000 in
theorem reck5 (a b : Int) (a0 : 0 ≤ a) (a1 : a < 18446744073709551616) (b0 : 0 ≤ b) (b1 : b < 18446744073709551616) (w : World) :
    Calls Try.prog 50 #[.int .i64 5, .int .u64 a, .int .u64 b] w fun e w' => e = .returned (.tuple #[.int .u64 (IntKind.u64.wrap (a - b)), .bool true]) ∧ w = w' := by
  go_enter Try.func50, Try.ntmps50
  go_wp2_with fail
  exact bodyPost_ret (v := .tuple #[.int .u64 (IntKind.u64.wrap (a - b)), .bool true]) (by simp [results, Try.results50, go_sem]) rfl ⟨rfl, rfl⟩

set_option maxHeartbeats 1000000 in
theorem rreck5 (a b : Int) (a0 : 0 ≤ a) (a1 : a < 18446744073709551616) (b0 : 0 ≤ b) (b1 : b < 18446744073709551616) (w : World) :
    Calls Try.prog 51 #[.int .i64 5, .int .u64 a, .int .u64 b] w fun e w' => e = .returned (.tuple #[.int .u64 (IntKind.u64.wrap (a - b)), .bool true]) ∧ w = w' := by
  go_enter Try.func51, Try.ntmps51
  go_wp2_with fail
  exact bodyPost_ret (v := .tuple #[.int .u64 (IntKind.u64.wrap (a - b)), .bool true]) (by simp [results, Try.results51, go_sem]) rfl ⟨rfl, rfl⟩

set_option maxHeartbeats 1000000 in
theorem reck6 (a b : Int) (a0 : 0 ≤ a) (a1 : a < 18446744073709551616) (b0 : 0 ≤ b) (b1 : b < 18446744073709551616) (w : World) :
    Calls Try.prog 50 #[.int .i64 6, .int .u64 a, .int .u64 b] w fun e w' => e = .returned (.tuple #[.int .u64 (IntKind.u64.wrap (a * b)), .bool true]) ∧ w = w' := by
  go_enter Try.func50, Try.ntmps50
  go_wp2_with fail
  exact bodyPost_ret (v := .tuple #[.int .u64 (IntKind.u64.wrap (a * b)), .bool true]) (by simp [results, Try.results50, go_sem]) rfl ⟨rfl, rfl⟩

set_option maxHeartbeats 1000000 in
theorem rreck6 (a b : Int) (a0 : 0 ≤ a) (a1 : a < 18446744073709551616) (b0 : 0 ≤ b) (b1 : b < 18446744073709551616) (w : World) :
    Calls Try.prog 51 #[.int .i64 6, .int .u64 a, .int .u64 b] w fun e w' => e = .returned (.tuple #[.int .u64 (IntKind.u64.wrap (a * b)), .bool true]) ∧ w = w' := by
  go_enter Try.func51, Try.ntmps51
  go_wp2_with fail
  exact bodyPost_ret (v := .tuple #[.int .u64 (IntKind.u64.wrap (a * b)), .bool true]) (by simp [results, Try.results51, go_sem]) rfl ⟨rfl, rfl⟩

set_option maxHeartbeats 1000000 in
theorem reck9 (a b : Int) (a0 : 0 ≤ a) (a1 : a < 18446744073709551616) (b0 : 0 ≤ b) (b1 : b < 18446744073709551616) (w : World) :
    Calls Try.prog 50 #[.int .i64 9, .int .u64 a, .int .u64 b] w fun e w' => e = .returned (.tuple #[.int .u64 (bits .and .u64 a b), .bool true]) ∧ w = w' := by
  go_enter Try.func50, Try.ntmps50
  go_wp2_with fail
  exact bodyPost_ret (v := .tuple #[.int .u64 (bits .and .u64 a b), .bool true]) (by simp [results, Try.results50, go_sem]) rfl ⟨rfl, rfl⟩

set_option maxHeartbeats 1000000 in
theorem rreck9 (a b : Int) (a0 : 0 ≤ a) (a1 : a < 18446744073709551616) (b0 : 0 ≤ b) (b1 : b < 18446744073709551616) (w : World) :
    Calls Try.prog 51 #[.int .i64 9, .int .u64 a, .int .u64 b] w fun e w' => e = .returned (.tuple #[.int .u64 (bits .and .u64 a b), .bool true]) ∧ w = w' := by
  go_enter Try.func51, Try.ntmps51
  go_wp2_with fail
  exact bodyPost_ret (v := .tuple #[.int .u64 (bits .and .u64 a b), .bool true]) (by simp [results, Try.results51, go_sem]) rfl ⟨rfl, rfl⟩

set_option maxHeartbeats 1000000 in
theorem reck10 (a b : Int) (a0 : 0 ≤ a) (a1 : a < 18446744073709551616) (b0 : 0 ≤ b) (b1 : b < 18446744073709551616) (w : World) :
    Calls Try.prog 50 #[.int .i64 10, .int .u64 a, .int .u64 b] w fun e w' => e = .returned (.tuple #[.int .u64 (bits .or .u64 a b), .bool true]) ∧ w = w' := by
  go_enter Try.func50, Try.ntmps50
  go_wp2_with fail
  exact bodyPost_ret (v := .tuple #[.int .u64 (bits .or .u64 a b), .bool true]) (by simp [results, Try.results50, go_sem]) rfl ⟨rfl, rfl⟩

set_option maxHeartbeats 1000000 in
theorem rreck10 (a b : Int) (a0 : 0 ≤ a) (a1 : a < 18446744073709551616) (b0 : 0 ≤ b) (b1 : b < 18446744073709551616) (w : World) :
    Calls Try.prog 51 #[.int .i64 10, .int .u64 a, .int .u64 b] w fun e w' => e = .returned (.tuple #[.int .u64 (bits .or .u64 a b), .bool true]) ∧ w = w' := by
  go_enter Try.func51, Try.ntmps51
  go_wp2_with fail
  exact bodyPost_ret (v := .tuple #[.int .u64 (bits .or .u64 a b), .bool true]) (by simp [results, Try.results51, go_sem]) rfl ⟨rfl, rfl⟩

set_option maxHeartbeats 1000000 in
theorem reck11 (a b : Int) (a0 : 0 ≤ a) (a1 : a < 18446744073709551616) (b0 : 0 ≤ b) (b1 : b < 18446744073709551616) (w : World) :
    Calls Try.prog 50 #[.int .i64 11, .int .u64 a, .int .u64 b] w fun e w' => e = .returned (.tuple #[.int .u64 (bits .xor .u64 a b), .bool true]) ∧ w = w' := by
  go_enter Try.func50, Try.ntmps50
  go_wp2_with fail
  exact bodyPost_ret (v := .tuple #[.int .u64 (bits .xor .u64 a b), .bool true]) (by simp [results, Try.results50, go_sem]) rfl ⟨rfl, rfl⟩

set_option maxHeartbeats 1000000 in
theorem rreck11 (a b : Int) (a0 : 0 ≤ a) (a1 : a < 18446744073709551616) (b0 : 0 ≤ b) (b1 : b < 18446744073709551616) (w : World) :
    Calls Try.prog 51 #[.int .i64 11, .int .u64 a, .int .u64 b] w fun e w' => e = .returned (.tuple #[.int .u64 (bits .xor .u64 a b), .bool true]) ∧ w = w' := by
  go_enter Try.func51, Try.ntmps51
  go_wp2_with fail
  exact bodyPost_ret (v := .tuple #[.int .u64 (bits .xor .u64 a b), .bool true]) (by simp [results, Try.results51, go_sem]) rfl ⟨rfl, rfl⟩

set_option maxHeartbeats 1000000 in
theorem reck12 (a b : Int) (a0 : 0 ≤ a) (a1 : a < 18446744073709551616) (b0 : 0 ≤ b) (b1 : b < 18446744073709551616) (w : World) :
    Calls Try.prog 50 #[.int .i64 12, .int .u64 a, .int .u64 b] w fun e w' => e = .returned (.tuple #[.int .u64 (IntKind.u64.wrap (a * 2 ^ (b % 64).toNat)), .bool true]) ∧ w = w' := by
  have hn := Alu.low6 b b0 b1
  have n0 : 0 ≤ b % 64 := by omega
  have n1 : b % 64 ≤ 64 := by omega
  go_enter Try.func50, Try.ntmps50
  go_wp2_with fail
  exact bodyPost_ret (v := .tuple #[.int .u64 (IntKind.u64.wrap (a * 2 ^ (b % 64).toNat)), .bool true]) (by simp [results, Try.results50, go_sem]) rfl ⟨rfl, rfl⟩

set_option maxHeartbeats 1000000 in
theorem rreck12 (a b : Int) (a0 : 0 ≤ a) (a1 : a < 18446744073709551616) (b0 : 0 ≤ b) (b1 : b < 18446744073709551616) (w : World) :
    Calls Try.prog 51 #[.int .i64 12, .int .u64 a, .int .u64 b] w fun e w' => e = .returned (.tuple #[.int .u64 (IntKind.u64.wrap (a * 2 ^ (b % 64).toNat)), .bool true]) ∧ w = w' := by
  have hn := Alu.low6 b b0 b1
  have n0 : 0 ≤ b % 64 := by omega
  have n1 : b % 64 ≤ 64 := by omega
  go_enter Try.func51, Try.ntmps51
  go_wp2_with fail
  exact bodyPost_ret (v := .tuple #[.int .u64 (IntKind.u64.wrap (a * 2 ^ (b % 64).toNat)), .bool true]) (by simp [results, Try.results51, go_sem]) rfl ⟨rfl, rfl⟩

set_option maxHeartbeats 1000000 in
theorem reck13 (a b : Int) (a0 : 0 ≤ a) (a1 : a < 18446744073709551616) (b0 : 0 ≤ b) (b1 : b < 18446744073709551616) (w : World) :
    Calls Try.prog 50 #[.int .i64 13, .int .u64 a, .int .u64 b] w fun e w' => e = .returned (.tuple #[.int .u64 (a / 2 ^ (b % 64).toNat), .bool true]) ∧ w = w' := by
  have hn := Alu.low6 b b0 b1
  have n0 : 0 ≤ b % 64 := by omega
  have n1 : b % 64 ≤ 64 := by omega
  go_enter Try.func50, Try.ntmps50
  go_wp2_with fail
  exact bodyPost_ret (v := .tuple #[.int .u64 (a / 2 ^ (b % 64).toNat), .bool true]) (by simp [results, Try.results50, go_sem]) rfl ⟨rfl, rfl⟩

set_option maxHeartbeats 1000000 in
theorem rreck13 (a b : Int) (a0 : 0 ≤ a) (a1 : a < 18446744073709551616) (b0 : 0 ≤ b) (b1 : b < 18446744073709551616) (w : World) :
    Calls Try.prog 51 #[.int .i64 13, .int .u64 a, .int .u64 b] w fun e w' => e = .returned (.tuple #[.int .u64 (a / 2 ^ (b % 64).toNat), .bool true]) ∧ w = w' := by
  have hn := Alu.low6 b b0 b1
  have n0 : 0 ≤ b % 64 := by omega
  have n1 : b % 64 ≤ 64 := by omega
  go_enter Try.func51, Try.ntmps51
  go_wp2_with fail
  exact bodyPost_ret (v := .tuple #[.int .u64 (a / 2 ^ (b % 64).toNat), .bool true]) (by simp [results, Try.results51, go_sem]) rfl ⟨rfl, rfl⟩

set_option maxHeartbeats 1000000 in
theorem reck14 (a b : Int) (a0 : 0 ≤ a) (a1 : a < 18446744073709551616) (b0 : 0 ≤ b) (b1 : b < 18446744073709551616) (w : World) :
    Calls Try.prog 50 #[.int .i64 14, .int .u64 a, .int .u64 b] w fun e w' => e = .returned (.tuple #[.int .u64 (IntKind.u64.wrap (wrap64 a / 2 ^ (b % 64).toNat)), .bool true]) ∧ w = w' := by
  have hn := Alu.low6 b b0 b1
  have n0 : 0 ≤ b % 64 := by omega
  have n1 : b % 64 ≤ 64 := by omega
  go_enter Try.func50, Try.ntmps50
  go_wp2_with fail
  exact bodyPost_ret (v := .tuple #[.int .u64 (IntKind.u64.wrap (wrap64 a / 2 ^ (b % 64).toNat)), .bool true]) (by simp [results, Try.results50, go_sem]) rfl ⟨rfl, rfl⟩

set_option maxHeartbeats 1000000 in
theorem reck15 (a b : Int) (a0 : 0 ≤ a) (a1 : a < 18446744073709551616) (b0 : 0 ≤ b) (b1 : b < 18446744073709551616) (w : World) :
    Calls Try.prog 50 #[.int .i64 15, .int .u64 a, .int .u64 b] w fun e w' => e = .returned (.tuple #[.int .u64 (Alu.bit (decide (wrap64 a < wrap64 b))), .bool true]) ∧ w = w' := by
  go_enter Try.func50, Try.ntmps50
  go_wp2_with fail
  refine (truth_any _ _).mono ?_
  rintro e w1 ⟨rfl, rfl⟩
  go_wp2_with fail
  exact bodyPost_ret (v := .tuple #[.int .u64 (Alu.bit (decide (wrap64 a < wrap64 b))), .bool true]) (by simp [results, Try.results50, go_sem]) rfl ⟨rfl, rfl⟩

set_option maxHeartbeats 1000000 in
theorem reck16 (a b : Int) (a0 : 0 ≤ a) (a1 : a < 18446744073709551616) (b0 : 0 ≤ b) (b1 : b < 18446744073709551616) (w : World) :
    Calls Try.prog 50 #[.int .i64 16, .int .u64 a, .int .u64 b] w fun e w' => e = .returned (.tuple #[.int .u64 (Alu.bit (decide (a < b))), .bool true]) ∧ w = w' := by
  go_enter Try.func50, Try.ntmps50
  go_wp2_with fail
  refine (truth_any _ _).mono ?_
  rintro e w1 ⟨rfl, rfl⟩
  go_wp2_with fail
  exact bodyPost_ret (v := .tuple #[.int .u64 (Alu.bit (decide (a < b))), .bool true]) (by simp [results, Try.results50, go_sem]) rfl ⟨rfl, rfl⟩

set_option maxHeartbeats 1000000 in
theorem rreck16 (a b : Int) (a0 : 0 ≤ a) (a1 : a < 18446744073709551616) (b0 : 0 ≤ b) (b1 : b < 18446744073709551616) (w : World) :
    Calls Try.prog 51 #[.int .i64 16, .int .u64 a, .int .u64 b] w fun e w' => e = .returned (.tuple #[.int .u64 (Alu.bit (decide (a < b))), .bool true]) ∧ w = w' := by
  go_enter Try.func51, Try.ntmps51
  go_wp2_with fail
  refine (rtruth_any _ _).mono ?_
  rintro e w1 ⟨rfl, rfl⟩
  go_wp2_with fail
  exact bodyPost_ret (v := .tuple #[.int .u64 (Alu.bit (decide (a < b))), .bool true]) (by simp [results, Try.results51, go_sem]) rfl ⟨rfl, rfl⟩

set_option maxHeartbeats 1000000 in
theorem reck17 (a b : Int) (a0 : 0 ≤ a) (a1 : a < 18446744073709551616) (b0 : 0 ≤ b) (b1 : b < 18446744073709551616) (w : World) :
    Calls Try.prog 50 #[.int .i64 17, .int .u64 a, .int .u64 b] w fun e w' => e = .returned (.tuple #[.int .u64 (Alu.bit (a == b)), .bool true]) ∧ w = w' := by
  go_enter Try.func50, Try.ntmps50
  go_wp2_with fail
  refine (truth_any _ _).mono ?_
  rintro e w1 ⟨rfl, rfl⟩
  go_wp2_with fail
  exact bodyPost_ret (v := .tuple #[.int .u64 (Alu.bit (a == b)), .bool true]) (by simp [results, Try.results50, go_sem]) rfl ⟨rfl, rfl⟩

set_option maxHeartbeats 1000000 in
theorem rreck17 (a b : Int) (a0 : 0 ≤ a) (a1 : a < 18446744073709551616) (b0 : 0 ≤ b) (b1 : b < 18446744073709551616) (w : World) :
    Calls Try.prog 51 #[.int .i64 17, .int .u64 a, .int .u64 b] w fun e w' => e = .returned (.tuple #[.int .u64 (Alu.bit (a == b)), .bool true]) ∧ w = w' := by
  go_enter Try.func51, Try.ntmps51
  go_wp2_with fail
  refine (rtruth_any _ _).mono ?_
  rintro e w1 ⟨rfl, rfl⟩
  go_wp2_with fail
  exact bodyPost_ret (v := .tuple #[.int .u64 (Alu.bit (a == b)), .bool true]) (by simp [results, Try.results51, go_sem]) rfl ⟨rfl, rfl⟩
end Go.Proofs.Ytelgmffmekfndaa
set_option linter.unusedVariables false
namespace Go.Proofs.Ytelgmffmekfndaa
open Go.ChangeShapes Go.WideShapes Go.ChangeAt Go.RowKit

theorem quot_zero (op x : Int) (w : World) :
    Calls Try.prog 74 #[.int .i64 op, .int .i64 x, .int .i64 0] w fun e w' => e = .returned (.tuple #[.int .u64 0, .bool false]) ∧ w = w' := by
  go_enter Try.func74, Try.ntmps74
  go_wp2_with fail
  exact bodyPost_ret (v := .tuple #[.int .u64 0, .bool false]) (by simp [results, Try.results74, go_sem]) rfl ⟨rfl, rfl⟩

theorem wrap_wrap (q : Int) : IntKind.u64.wrap (wrap64 q) = IntKind.u64.wrap q := by
  rw [IntKind.wrap_u64, IntKind.wrap_u64]; unfold wrap64; omega
theorem wrap_quo (q : Int) : IntKind.u64.wrap (wrap64 q) = IntKind.u64.wrap q := wrap_wrap q

set_option maxHeartbeats 1000000 in
theorem quot_div (x y : Int) (x0 : -9223372036854775808 ≤ x) (x1 : x ≤ 9223372036854775807) (y0 : -9223372036854775808 ≤ y) (y1 : y ≤ 9223372036854775807) (hy : (y == 0) = false) (w : World) :
    Calls Try.prog 74 #[.int .i64 7, .int .i64 x, .int .i64 y] w fun e w' => e = .returned (.tuple #[.int .u64 (IntKind.u64.wrap (x.tdiv y)), .bool true]) ∧ w = w' := by
  have hy2 : y ≠ 0 := by intro e; subst e; exact absurd hy (by decide)
  cases hx : (x == -9223372036854775808)
  · go_enter Try.func74, Try.ntmps74
    go_wp2_with fail
    exact bodyPost_ret (v := .tuple #[.int .u64 (IntKind.u64.wrap (wrap64 (x.tdiv y))), .bool true]) (by simp [results, Try.results74, go_sem]) rfl ⟨by rw [wrap_wrap], rfl⟩
  · cases hm : (y == -1)
    · go_enter Try.func74, Try.ntmps74
      go_wp2_with fail
      exact bodyPost_ret (v := .tuple #[.int .u64 (IntKind.u64.wrap (wrap64 (x.tdiv y))), .bool true]) (by simp [results, Try.results74, go_sem]) rfl ⟨by rw [wrap_wrap], rfl⟩
    · have ex : x = -9223372036854775808 := by simpa using hx
      have ey : y = -1 := by simpa using hm
      subst ex ey
      go_enter Try.func74, Try.ntmps74
      go_wp2_with fail
      exact bodyPost_ret (v := .tuple #[.int .u64 (IntKind.u64.wrap (-9223372036854775808)), .bool true]) (by simp [results, Try.results74, go_sem]) rfl ⟨by rfl, rfl⟩

set_option maxHeartbeats 1000000 in
theorem quot_rem (x y : Int) (x0 : -9223372036854775808 ≤ x) (x1 : x ≤ 9223372036854775807) (y0 : -9223372036854775808 ≤ y) (y1 : y ≤ 9223372036854775807) (hy : (y == 0) = false) (w : World) :
    Calls Try.prog 74 #[.int .i64 8, .int .i64 x, .int .i64 y] w fun e w' => e = .returned (.tuple #[.int .u64 (IntKind.u64.wrap (x.tmod y)), .bool true]) ∧ w = w' := by
  have hy2 : y ≠ 0 := by intro e; subst e; exact absurd hy (by decide)
  cases hx : (x == -9223372036854775808)
  · go_enter Try.func74, Try.ntmps74
    go_wp2_with fail
    exact bodyPost_ret (v := .tuple #[.int .u64 (IntKind.u64.wrap (x.tmod y)), .bool true]) (by simp [results, Try.results74, go_sem]) rfl ⟨rfl, rfl⟩
  · cases hm : (y == -1)
    · go_enter Try.func74, Try.ntmps74
      go_wp2_with fail
      exact bodyPost_ret (v := .tuple #[.int .u64 (IntKind.u64.wrap (x.tmod y)), .bool true]) (by simp [results, Try.results74, go_sem]) rfl ⟨rfl, rfl⟩
    · have ex : x = -9223372036854775808 := by simpa using hx
      have ey : y = -1 := by simpa using hm
      subst ex ey
      go_enter Try.func74, Try.ntmps74
      go_wp2_with fail
      exact bodyPost_ret (v := .tuple #[.int .u64 0, .bool true]) (by simp [results, Try.results74, go_sem]) rfl ⟨by rfl, rfl⟩

theorem rabs_pos (a : Int) (a0 : 0 ≤ a) (a1 : a < 9223372036854775808) (w : World) :
    Calls Try.prog 77 #[.int .u64 a] w fun e w' => e = .returned (.tuple #[.int .u64 a, .bool false]) ∧ w = w' := by
  have h : a / 9223372036854775808 = 0 := by omega
  go_enter Try.func77, Try.ntmps77
  go_wp2_with fail
  exact bodyPost_ret (v := .tuple #[.int .u64 a, .bool false]) (by simp [results, Try.results77, go_sem]) rfl ⟨rfl, rfl⟩
theorem rabs_neg (a : Int) (a0 : 9223372036854775808 ≤ a) (a1 : a < 18446744073709551616) (w : World) :
    Calls Try.prog 77 #[.int .u64 a] w fun e w' => e = .returned (.tuple #[.int .u64 (18446744073709551616 - a), .bool true]) ∧ w = w' := by
  have h : a / 9223372036854775808 = 1 := by omega
  have h2 : IntKind.u64.wrap (-a) = 18446744073709551616 - a := by rw [IntKind.wrap_u64]; omega
  go_enter Try.func77, Try.ntmps77
  go_wp2_with fail
  exact bodyPost_ret (v := .tuple #[.int .u64 (18446744073709551616 - a), .bool true]) (by simp [results, Try.results77, go_sem]) rfl ⟨rfl, rfl⟩

theorem rbelow_any (a b : Int) (a0 : 0 ≤ a) (a1 : a < 18446744073709551616) (b0 : 0 ≤ b) (b1 : b < 18446744073709551616) (w : World) :
    Calls Try.prog 79 #[.int .u64 a, .int .u64 b] w fun e w' => e = .returned (.bool (decide (wrap64 a < wrap64 b))) ∧ w = w' := by
  have ha := Alu.top_xor a a0 a1
  have hb := Alu.top_xor b b0 b1
  have e : decide (wrap64 a < wrap64 b) = decide (wrap64 a + 9223372036854775808 < wrap64 b + 9223372036854775808) := by
    rw [decide_eq_decide]; omega
  rw [e]
  go_enter Try.func79, Try.ntmps79
  go_wp2_with fail
  go_ret
  exact ⟨rfl, rfl⟩
end Go.Proofs.Ytelgmffmekfndaa
set_option linter.unusedVariables false
namespace Go.Proofs.Ytelgmffmekfndaa
open Go.ChangeShapes Go.WideShapes Go.ChangeAt Go.RowKit

theorem reck7_zero (a : Int) (a0 : 0 ≤ a) (a1 : a < 18446744073709551616) (w : World) :
    Calls Try.prog 50 #[.int .i64 7, .int .u64 a, .int .u64 0] w fun e w' => e = .returned (.tuple #[.int .u64 0, .bool false]) ∧ w = w' := by
  have hz : wrap64 0 = 0 := by simp [wrap64]
  go_enter Try.func50, Try.ntmps50
  go_wp2_with fail
  refine (quot_zero 7 _ _).mono ?_
  rintro e w1 ⟨rfl, rfl⟩
  go_wp2_with fail
  exact bodyPost_ret (v := .tuple #[.int .u64 (0), .bool false]) (by simp [results, Try.results50, go_sem]) rfl ⟨rfl, rfl⟩
theorem rreck7_zero (a : Int) (a0 : 0 ≤ a) (a1 : a < 18446744073709551616) (w : World) :
    Calls Try.prog 51 #[.int .i64 7, .int .u64 a, .int .u64 0] w fun e w' => e = .returned (.tuple #[.int .u64 0, .bool false]) ∧ w = w' := by
  go_enter Try.func51, Try.ntmps51
  go_wp2_with fail
  exact bodyPost_ret (v := .tuple #[.int .u64 (0), .bool false]) (by simp [results, Try.results51, go_sem]) rfl ⟨rfl, rfl⟩
theorem reck7 (a b : Int) (a0 : 0 ≤ a) (a1 : a < 18446744073709551616) (b0 : 0 < b) (b1 : b < 18446744073709551616) (w : World) :
    Calls Try.prog 50 #[.int .i64 7, .int .u64 a, .int .u64 b] w fun e w' => e = .returned (.tuple #[.int .u64 (IntKind.u64.wrap ((wrap64 a).tdiv (wrap64 b))), .bool true]) ∧ w = w' := by
  have x0 : -9223372036854775808 ≤ wrap64 a ∧ wrap64 a ≤ 9223372036854775807 := by unfold wrap64; omega
  have y0 : -9223372036854775808 ≤ wrap64 b ∧ wrap64 b ≤ 9223372036854775807 := by unfold wrap64; omega
  have yz : (wrap64 b == 0) = false := by rw [beq_eq_false_iff_ne]; unfold wrap64; omega
  have h := quot_div (wrap64 a) (wrap64 b) x0.1 x0.2 y0.1 y0.2 yz
  have H := Lib.hid h
  clear h x0 y0 yz
  go_enter Try.func50, Try.ntmps50
  go_wp2_with fail
  refine (H.out _).mono ?_
  rintro e w1 ⟨rfl, rfl⟩
  go_wp2_with fail
  exact bodyPost_ret (v := .tuple #[.int .u64 (IntKind.u64.wrap ((wrap64 a).tdiv (wrap64 b))), .bool true]) (by simp [results, Try.results50, go_sem]) rfl ⟨rfl, rfl⟩

set_option maxHeartbeats 1000000 in
theorem rreck7_pp (a b : Int) (a0 : 0 ≤ a) (a1 : a < 9223372036854775808) (b0 : 0 < b) (b1 : b < 9223372036854775808) (w : World) :
    Calls Try.prog 51 #[.int .i64 7, .int .u64 a, .int .u64 b] w fun e w' => e = .returned (.tuple #[.int .u64 (IntKind.u64.wrap ((wrap64 a).tdiv (wrap64 b))), .bool true]) ∧ w = w' := by
  have hz : (b == 0) = false := by rw [beq_eq_false_iff_ne]; omega
  have hz2 : b ≠ 0 := by omega
  have hy2 : b ≠ 0 := by omega
  go_enter Try.func51, Try.ntmps51
  go_wp2_with fail
  refine (rabs_pos a a0 a1 _).mono ?_
  rintro e w1 ⟨rfl, rfl⟩
  go_wp2_with fail
  refine (rabs_pos b (by omega) b1 _).mono ?_
  rintro e w1 ⟨rfl, rfl⟩
  go_wp2_with fail
  exact bodyPost_ret (v := .tuple #[.int .u64 (a / b), .bool true]) (by simp [results, Try.results51, go_sem]) rfl ⟨by rw [Alu.wrap_pos a0 a1, Alu.wrap_pos (by omega) b1, (Alu.quo_same (X := a) (Y := b) (by omega) (by omega) (by omega)).1], rfl⟩

set_option maxHeartbeats 1000000 in
theorem rreck7_pn (a b : Int) (a0 : 0 ≤ a) (a1 : a < 9223372036854775808) (b0 : 9223372036854775808 ≤ b) (b1 : b < 18446744073709551616) (w : World) :
    Calls Try.prog 51 #[.int .i64 7, .int .u64 a, .int .u64 b] w fun e w' => e = .returned (.tuple #[.int .u64 (IntKind.u64.wrap ((wrap64 a).tdiv (wrap64 b))), .bool true]) ∧ w = w' := by
  have hz : (b == 0) = false := by rw [beq_eq_false_iff_ne]; omega
  have hz2 : b ≠ 0 := by omega
  have hy2 : (18446744073709551616 - b) ≠ 0 := by omega
  go_enter Try.func51, Try.ntmps51
  go_wp2_with fail
  refine (rabs_pos a a0 a1 _).mono ?_
  rintro e w1 ⟨rfl, rfl⟩
  go_wp2_with fail
  refine (rabs_neg b b0 b1 _).mono ?_
  rintro e w1 ⟨rfl, rfl⟩
  go_wp2_with fail
  exact bodyPost_ret (v := .tuple #[.int .u64 (IntKind.u64.wrap (-(a / (18446744073709551616 - b)))), .bool true]) (by simp [results, Try.results51, go_sem]) rfl ⟨by rw [Alu.wrap_pos a0 a1, Alu.wrap_neg b0 b1, (Alu.quo_same (X := a) (Y := (18446744073709551616 - b)) (by omega) (by omega) (by omega)).2.2.2], rfl⟩

set_option maxHeartbeats 1000000 in
theorem rreck7_np (a b : Int) (a0 : 9223372036854775808 ≤ a) (a1 : a < 18446744073709551616) (b0 : 0 < b) (b1 : b < 9223372036854775808) (w : World) :
    Calls Try.prog 51 #[.int .i64 7, .int .u64 a, .int .u64 b] w fun e w' => e = .returned (.tuple #[.int .u64 (IntKind.u64.wrap ((wrap64 a).tdiv (wrap64 b))), .bool true]) ∧ w = w' := by
  have hz : (b == 0) = false := by rw [beq_eq_false_iff_ne]; omega
  have hz2 : b ≠ 0 := by omega
  have hy2 : b ≠ 0 := by omega
  go_enter Try.func51, Try.ntmps51
  go_wp2_with fail
  refine (rabs_neg a a0 a1 _).mono ?_
  rintro e w1 ⟨rfl, rfl⟩
  go_wp2_with fail
  refine (rabs_pos b (by omega) b1 _).mono ?_
  rintro e w1 ⟨rfl, rfl⟩
  go_wp2_with fail
  exact bodyPost_ret (v := .tuple #[.int .u64 (IntKind.u64.wrap (-((18446744073709551616 - a) / b))), .bool true]) (by simp [results, Try.results51, go_sem]) rfl ⟨by rw [Alu.wrap_neg a0 a1, Alu.wrap_pos (by omega) b1, (Alu.quo_same (X := (18446744073709551616 - a)) (Y := b) (by omega) (by omega) (by omega)).2.2.1], rfl⟩

set_option maxHeartbeats 1000000 in
theorem rreck7_nn (a b : Int) (a0 : 9223372036854775808 ≤ a) (a1 : a < 18446744073709551616) (b0 : 9223372036854775808 ≤ b) (b1 : b < 18446744073709551616) (w : World) :
    Calls Try.prog 51 #[.int .i64 7, .int .u64 a, .int .u64 b] w fun e w' => e = .returned (.tuple #[.int .u64 (IntKind.u64.wrap ((wrap64 a).tdiv (wrap64 b))), .bool true]) ∧ w = w' := by
  have hz : (b == 0) = false := by rw [beq_eq_false_iff_ne]; omega
  have hz2 : b ≠ 0 := by omega
  have hy2 : (18446744073709551616 - b) ≠ 0 := by omega
  go_enter Try.func51, Try.ntmps51
  go_wp2_with fail
  refine (rabs_neg a a0 a1 _).mono ?_
  rintro e w1 ⟨rfl, rfl⟩
  go_wp2_with fail
  refine (rabs_neg b b0 b1 _).mono ?_
  rintro e w1 ⟨rfl, rfl⟩
  go_wp2_with fail
  exact bodyPost_ret (v := .tuple #[.int .u64 ((18446744073709551616 - a) / (18446744073709551616 - b)), .bool true]) (by simp [results, Try.results51, go_sem]) rfl ⟨by rw [Alu.wrap_neg a0 a1, Alu.wrap_neg b0 b1, (Alu.quo_same (X := (18446744073709551616 - a)) (Y := (18446744073709551616 - b)) (by omega) (by omega) (by omega)).2.1], rfl⟩

theorem rreck7 (a b : Int) (a0 : 0 ≤ a) (a1 : a < 18446744073709551616) (b0 : 0 < b) (b1 : b < 18446744073709551616) (w : World) :
    Calls Try.prog 51 #[.int .i64 7, .int .u64 a, .int .u64 b] w fun e w' => e = .returned (.tuple #[.int .u64 (IntKind.u64.wrap ((wrap64 a).tdiv (wrap64 b))), .bool true]) ∧ w = w' := by
  by_cases ha : a < 9223372036854775808
  · by_cases hb : b < 9223372036854775808
    · exact rreck7_pp a b a0 ha b0 hb w
    · exact rreck7_pn a b a0 ha (by omega) b1 w
  · by_cases hb : b < 9223372036854775808
    · exact rreck7_np a b (by omega) a1 b0 hb w
    · exact rreck7_nn a b (by omega) a1 (by omega) b1 w

theorem reck8_zero (a : Int) (a0 : 0 ≤ a) (a1 : a < 18446744073709551616) (w : World) :
    Calls Try.prog 50 #[.int .i64 8, .int .u64 a, .int .u64 0] w fun e w' => e = .returned (.tuple #[.int .u64 0, .bool false]) ∧ w = w' := by
  have hz : wrap64 0 = 0 := by simp [wrap64]
  go_enter Try.func50, Try.ntmps50
  go_wp2_with fail
  refine (quot_zero 8 _ _).mono ?_
  rintro e w1 ⟨rfl, rfl⟩
  go_wp2_with fail
  exact bodyPost_ret (v := .tuple #[.int .u64 (0), .bool false]) (by simp [results, Try.results50, go_sem]) rfl ⟨rfl, rfl⟩
theorem rreck8_zero (a : Int) (a0 : 0 ≤ a) (a1 : a < 18446744073709551616) (w : World) :
    Calls Try.prog 51 #[.int .i64 8, .int .u64 a, .int .u64 0] w fun e w' => e = .returned (.tuple #[.int .u64 0, .bool false]) ∧ w = w' := by
  go_enter Try.func51, Try.ntmps51
  go_wp2_with fail
  exact bodyPost_ret (v := .tuple #[.int .u64 (0), .bool false]) (by simp [results, Try.results51, go_sem]) rfl ⟨rfl, rfl⟩
theorem reck8 (a b : Int) (a0 : 0 ≤ a) (a1 : a < 18446744073709551616) (b0 : 0 < b) (b1 : b < 18446744073709551616) (w : World) :
    Calls Try.prog 50 #[.int .i64 8, .int .u64 a, .int .u64 b] w fun e w' => e = .returned (.tuple #[.int .u64 (IntKind.u64.wrap ((wrap64 a).tmod (wrap64 b))), .bool true]) ∧ w = w' := by
  have x0 : -9223372036854775808 ≤ wrap64 a ∧ wrap64 a ≤ 9223372036854775807 := by unfold wrap64; omega
  have y0 : -9223372036854775808 ≤ wrap64 b ∧ wrap64 b ≤ 9223372036854775807 := by unfold wrap64; omega
  have yz : (wrap64 b == 0) = false := by rw [beq_eq_false_iff_ne]; unfold wrap64; omega
  have h := quot_rem (wrap64 a) (wrap64 b) x0.1 x0.2 y0.1 y0.2 yz
  have H := Lib.hid h
  clear h x0 y0 yz
  go_enter Try.func50, Try.ntmps50
  go_wp2_with fail
  refine (H.out _).mono ?_
  rintro e w1 ⟨rfl, rfl⟩
  go_wp2_with fail
  exact bodyPost_ret (v := .tuple #[.int .u64 (IntKind.u64.wrap ((wrap64 a).tmod (wrap64 b))), .bool true]) (by simp [results, Try.results50, go_sem]) rfl ⟨rfl, rfl⟩

set_option maxHeartbeats 1000000 in
theorem rreck8_pp (a b : Int) (a0 : 0 ≤ a) (a1 : a < 9223372036854775808) (b0 : 0 < b) (b1 : b < 9223372036854775808) (w : World) :
    Calls Try.prog 51 #[.int .i64 8, .int .u64 a, .int .u64 b] w fun e w' => e = .returned (.tuple #[.int .u64 (IntKind.u64.wrap ((wrap64 a).tmod (wrap64 b))), .bool true]) ∧ w = w' := by
  have hz : (b == 0) = false := by rw [beq_eq_false_iff_ne]; omega
  have hz2 : b ≠ 0 := by omega
  have hy2 : b ≠ 0 := by omega
  go_enter Try.func51, Try.ntmps51
  go_wp2_with fail
  refine (rabs_pos a a0 a1 _).mono ?_
  rintro e w1 ⟨rfl, rfl⟩
  go_wp2_with fail
  refine (rabs_pos b (by omega) b1 _).mono ?_
  rintro e w1 ⟨rfl, rfl⟩
  go_wp2_with fail
  exact bodyPost_ret (v := .tuple #[.int .u64 (IntKind.u64.wrap (a - IntKind.u64.wrap (a / b * b))), .bool true]) (by simp [results, Try.results51, go_sem]) rfl ⟨by rw [Alu.wrap_pos a0 a1, Alu.wrap_pos (by omega) b1, (Alu.rem_same (X := a) (Y := b) (by omega) (by omega) (by omega)).1, Alu.rem_of (X := a) (Y := b) (by omega) (by omega) (by omega)], rfl⟩

set_option maxHeartbeats 1000000 in
theorem rreck8_pn (a b : Int) (a0 : 0 ≤ a) (a1 : a < 9223372036854775808) (b0 : 9223372036854775808 ≤ b) (b1 : b < 18446744073709551616) (w : World) :
    Calls Try.prog 51 #[.int .i64 8, .int .u64 a, .int .u64 b] w fun e w' => e = .returned (.tuple #[.int .u64 (IntKind.u64.wrap ((wrap64 a).tmod (wrap64 b))), .bool true]) ∧ w = w' := by
  have hz : (b == 0) = false := by rw [beq_eq_false_iff_ne]; omega
  have hz2 : b ≠ 0 := by omega
  have hy2 : (18446744073709551616 - b) ≠ 0 := by omega
  go_enter Try.func51, Try.ntmps51
  go_wp2_with fail
  refine (rabs_pos a a0 a1 _).mono ?_
  rintro e w1 ⟨rfl, rfl⟩
  go_wp2_with fail
  refine (rabs_neg b b0 b1 _).mono ?_
  rintro e w1 ⟨rfl, rfl⟩
  go_wp2_with fail
  exact bodyPost_ret (v := .tuple #[.int .u64 (IntKind.u64.wrap (a - IntKind.u64.wrap (a / (18446744073709551616 - b) * (18446744073709551616 - b)))), .bool true]) (by simp [results, Try.results51, go_sem]) rfl ⟨by rw [Alu.wrap_pos a0 a1, Alu.wrap_neg b0 b1, (Alu.rem_same (X := a) (Y := (18446744073709551616 - b)) (by omega) (by omega) (by omega)).2.1, Alu.rem_of (X := a) (Y := (18446744073709551616 - b)) (by omega) (by omega) (by omega)], rfl⟩

set_option maxHeartbeats 1000000 in
theorem rreck8_np (a b : Int) (a0 : 9223372036854775808 ≤ a) (a1 : a < 18446744073709551616) (b0 : 0 < b) (b1 : b < 9223372036854775808) (w : World) :
    Calls Try.prog 51 #[.int .i64 8, .int .u64 a, .int .u64 b] w fun e w' => e = .returned (.tuple #[.int .u64 (IntKind.u64.wrap ((wrap64 a).tmod (wrap64 b))), .bool true]) ∧ w = w' := by
  have hz : (b == 0) = false := by rw [beq_eq_false_iff_ne]; omega
  have hz2 : b ≠ 0 := by omega
  have hy2 : b ≠ 0 := by omega
  go_enter Try.func51, Try.ntmps51
  go_wp2_with fail
  refine (rabs_neg a a0 a1 _).mono ?_
  rintro e w1 ⟨rfl, rfl⟩
  go_wp2_with fail
  refine (rabs_pos b (by omega) b1 _).mono ?_
  rintro e w1 ⟨rfl, rfl⟩
  go_wp2_with fail
  exact bodyPost_ret (v := .tuple #[.int .u64 (IntKind.u64.wrap (-IntKind.u64.wrap ((18446744073709551616 - a) - IntKind.u64.wrap ((18446744073709551616 - a) / b * b)))), .bool true]) (by simp [results, Try.results51, go_sem]) rfl ⟨by rw [Alu.wrap_neg a0 a1, Alu.wrap_pos (by omega) b1, (Alu.rem_same (X := (18446744073709551616 - a)) (Y := b) (by omega) (by omega) (by omega)).2.2.1, Alu.rem_of (X := (18446744073709551616 - a)) (Y := b) (by omega) (by omega) (by omega)], rfl⟩

set_option maxHeartbeats 1000000 in
theorem rreck8_nn (a b : Int) (a0 : 9223372036854775808 ≤ a) (a1 : a < 18446744073709551616) (b0 : 9223372036854775808 ≤ b) (b1 : b < 18446744073709551616) (w : World) :
    Calls Try.prog 51 #[.int .i64 8, .int .u64 a, .int .u64 b] w fun e w' => e = .returned (.tuple #[.int .u64 (IntKind.u64.wrap ((wrap64 a).tmod (wrap64 b))), .bool true]) ∧ w = w' := by
  have hz : (b == 0) = false := by rw [beq_eq_false_iff_ne]; omega
  have hz2 : b ≠ 0 := by omega
  have hy2 : (18446744073709551616 - b) ≠ 0 := by omega
  go_enter Try.func51, Try.ntmps51
  go_wp2_with fail
  refine (rabs_neg a a0 a1 _).mono ?_
  rintro e w1 ⟨rfl, rfl⟩
  go_wp2_with fail
  refine (rabs_neg b b0 b1 _).mono ?_
  rintro e w1 ⟨rfl, rfl⟩
  go_wp2_with fail
  exact bodyPost_ret (v := .tuple #[.int .u64 (IntKind.u64.wrap (-IntKind.u64.wrap ((18446744073709551616 - a) - IntKind.u64.wrap ((18446744073709551616 - a) / (18446744073709551616 - b) * (18446744073709551616 - b))))), .bool true]) (by simp [results, Try.results51, go_sem]) rfl ⟨by rw [Alu.wrap_neg a0 a1, Alu.wrap_neg b0 b1, (Alu.rem_same (X := (18446744073709551616 - a)) (Y := (18446744073709551616 - b)) (by omega) (by omega) (by omega)).2.2.2, Alu.rem_of (X := (18446744073709551616 - a)) (Y := (18446744073709551616 - b)) (by omega) (by omega) (by omega)], rfl⟩

theorem rreck8 (a b : Int) (a0 : 0 ≤ a) (a1 : a < 18446744073709551616) (b0 : 0 < b) (b1 : b < 18446744073709551616) (w : World) :
    Calls Try.prog 51 #[.int .i64 8, .int .u64 a, .int .u64 b] w fun e w' => e = .returned (.tuple #[.int .u64 (IntKind.u64.wrap ((wrap64 a).tmod (wrap64 b))), .bool true]) ∧ w = w' := by
  by_cases ha : a < 9223372036854775808
  · by_cases hb : b < 9223372036854775808
    · exact rreck8_pp a b a0 ha b0 hb w
    · exact rreck8_pn a b a0 ha (by omega) b1 w
  · by_cases hb : b < 9223372036854775808
    · exact rreck8_np a b (by omega) a1 b0 hb w
    · exact rreck8_nn a b (by omega) a1 (by omega) b1 w

theorem rreck14 (a b : Int) (a0 : 0 ≤ a) (a1 : a < 18446744073709551616) (b0 : 0 ≤ b) (b1 : b < 18446744073709551616) (w : World) :
    Calls Try.prog 51 #[.int .i64 14, .int .u64 a, .int .u64 b] w fun e w' => e = .returned (.tuple #[.int .u64 (IntKind.u64.wrap (wrap64 a / 2 ^ (b % 64).toNat)), .bool true]) ∧ w = w' := by
  have hn := Alu.low6 b b0 b1
  have n0 : 0 ≤ b % 64 := by omega
  have n1 : b % 64 ≤ 64 := by omega
  by_cases ha : a < 9223372036854775808
  · have h : a / 9223372036854775808 = 0 := by omega
    go_enter Try.func51, Try.ntmps51
    go_wp2_with fail
    exact bodyPost_ret (v := .tuple #[.int .u64 (a / 2 ^ (b % 64).toNat), .bool true]) (by simp [results, Try.results51, go_sem]) rfl ⟨by rw [Alu.sar_pos a0 ha], rfl⟩
  · have h : a / 9223372036854775808 = 1 := by omega
    go_enter Try.func51, Try.ntmps51
    go_wp2_with fail
    exact bodyPost_ret (v := .tuple #[.int .u64 (bits .xor .u64 IntKind.u64.max (bits .xor .u64 IntKind.u64.max a / 2 ^ (b % 64).toNat)), .bool true]) (by simp [results, Try.results51, go_sem]) rfl ⟨by rw [Alu.sar_neg (by omega) a1], rfl⟩
theorem rreck15 (a b : Int) (a0 : 0 ≤ a) (a1 : a < 18446744073709551616) (b0 : 0 ≤ b) (b1 : b < 18446744073709551616) (w : World) :
    Calls Try.prog 51 #[.int .i64 15, .int .u64 a, .int .u64 b] w fun e w' => e = .returned (.tuple #[.int .u64 (Alu.bit (decide (wrap64 a < wrap64 b))), .bool true]) ∧ w = w' := by
  go_enter Try.func51, Try.ntmps51
  go_wp2_with fail
  refine (rbelow_any a b a0 a1 b0 b1 _).mono ?_
  rintro e w1 ⟨rfl, rfl⟩
  go_wp2_with fail
  refine (rtruth_any _ _).mono ?_
  rintro e w1 ⟨rfl, rfl⟩
  go_wp2_with fail
  exact bodyPost_ret (v := .tuple #[.int .u64 (Alu.bit (decide (wrap64 a < wrap64 b))), .bool true]) (by simp [results, Try.results51, go_sem]) rfl ⟨rfl, rfl⟩
end Go.Proofs.Ytelgmffmekfndaa
