/- The contracts of alu.Reckon and of the reference's at the operations on whole numbers. Conditions: the words fit 64 bits. -/
import Derived.Test.YtelgmffmekfndaaFltOrd
import Derived.Test.YtelgmffmekfndaaAluLaw
set_option linter.unusedVariables false
namespace Go.Proofs.Ytelgmffmekfndaa
open Go.ChangeShapes Go.WideShapes Go.ChangeAt Go.RowKit

theorem truth_any (t : Bool) (w : World) : Calls Try.prog 75 #[.bool t] w fun e w' => e = .returned (.int .u64 (Alu.bit t)) ∧ w = w' := by
  cases t
  all_goals
    go_enter Try.func75, Try.ntmps75
    go_wp2
    go_ret
    exact ⟨rfl, rfl⟩
theorem rtruth_any (t : Bool) (w : World) : Calls Try.prog 78 #[.bool t] w fun e w' => e = .returned (.int .u64 (Alu.bit t)) ∧ w = w' := by
  cases t
  all_goals
    go_enter Try.func78, Try.ntmps78
    go_wp2
    go_ret
    exact ⟨rfl, rfl⟩

set_option maxHeartbeats 1000000 in
theorem reck4 (a b : Int) (a0 : 0 ≤ a) (a1 : a < 18446744073709551616) (b0 : 0 ≤ b) (b1 : b < 18446744073709551616) (w : World) :
    Calls Try.prog 50 #[.int .i64 4, .int .u64 a, .int .u64 b] w fun e w' => e = .returned (.tuple #[.int .u64 (IntKind.u64.wrap (a + b)), .bool true]) ∧ w = w' := by
  go_enter Try.func50, Try.ntmps50
  go_wp2_with fail
  exact bodyPost_ret (v := .tuple #[.int .u64 (IntKind.u64.wrap (a + b)), .bool true]) (by simp [results, Try.results50, go_sem]) rfl ⟨rfl, rfl⟩

set_option maxHeartbeats 1000000 in
theorem rreck4 (a b : Int) (a0 : 0 ≤ a) (a1 : a < 18446744073709551616) (b0 : 0 ≤ b) (b1 : b < 18446744073709551616) (w : World) :
    Calls Try.prog 51 #[.int .i64 4, .int .u64 a, .int .u64 b] w fun e w' => e = .returned (.tuple #[.int .u64 (IntKind.u64.wrap (a + b)), .bool true]) ∧ w = w' := by
  go_enter Try.func51, Try.ntmps51
  go_wp2_with fail
  exact bodyPost_ret (v := .tuple #[.int .u64 (IntKind.u64.wrap (a + b)), .bool true]) (by simp [results, Try.results51, go_sem]) rfl ⟨rfl, rfl⟩

set_option maxHeartbeats 1000000 in
theorem reck5 (a b : Int) (a0 : 0 ≤ a) (a1 : a < 18446744073709551616) (b0 : 0 ≤ b) (b1 : b < 18446744073709551616) (w : World) :
    Calls Try.prog 50 #[.int .i64 5, .int .u64 a, .int .u64 b] w fun e w' => e = .returned (.tuple #[.int .u64 (IntKind.u64.wrap (a - b)), .bool true]) ∧ w = w' := by
  go_enter Try.func50, Try.ntmps50
  go_wp2_with fail
  exact bodyPost_ret (v := .tuple #[.int .u64 (IntKind.u64.wrap (a - b)), .bool true]) (by simp [results, Try.results50, go_sem]) rfl ⟨rfl, rfl⟩

set_option maxHeartbeats 1000000 in
theorem rreck5 (a b : Int) (a0 : 0 ≤ a) (a1 : a < 18446744073709551616) (b0 : 0 ≤ b) (b1 : b < 18446744073709551616) (w : World) :
    Calls Try.prog 51 #[.int .i64 5, .int .u64 a, .int .u64 b] w fun e w' => e = .returned (.tuple #[.int .u64 (IntKind.u64.wrap (a - b)), .bool true]) ∧ w = w' := by
  go_enter Try.func51, Try.ntmps51
  go_wp2_with fail
  exact bodyPost_ret (v := .tuple #[.int .u64 (IntKind.u64.wrap (a - b)), .bool true]) (by simp [results, Try.results51, go_sem]) rfl ⟨rfl, rfl⟩

set_option maxHeartbeats 1000000 in
theorem reck6 (a b : Int) (a0 : 0 ≤ a) (a1 : a < 18446744073709551616) (b0 : 0 ≤ b) (b1 : b < 18446744073709551616) (w : World) :
    Calls Try.prog 50 #[.int .i64 6, .int .u64 a, .int .u64 b] w fun e w' => e = .returned (.tuple #[.int .u64 (IntKind.u64.wrap (a * b)), .bool true]) ∧ w = w' := by
  go_enter Try.func50, Try.ntmps50
  go_wp2_with fail
  exact bodyPost_ret (v := .tuple #[.int .u64 (IntKind.u64.wrap (a * b)), .bool true]) (by simp [results, Try.results50, go_sem]) rfl ⟨rfl, rfl⟩

set_option maxHeartbeats 1000000 in
theorem rreck6 (a b : Int) (a0 : 0 ≤ a) (a1 : a < 18446744073709551616) (b0 : 0 ≤ b) (b1 : b < 18446744073709551616) (w : World) :
    Calls Try.prog 51 #[.int .i64 6, .int .u64 a, .int .u64 b] w fun e w' => e = .returned (.tuple #[.int .u64 (IntKind.u64.wrap (a * b)), .bool true]) ∧ w = w' := by
  go_enter Try.func51, Try.ntmps51
  go_wp2_with fail
  exact bodyPost_ret (v := .tuple #[.int .u64 (IntKind.u64.wrap (a * b)), .bool true]) (by simp [results, Try.results51, go_sem]) rfl ⟨rfl, rfl⟩

set_option maxHeartbeats 1000000 in
theorem reck9 (a b : Int) (a0 : 0 ≤ a) (a1 : a < 18446744073709551616) (b0 : 0 ≤ b) (b1 : b < 18446744073709551616) (w : World) :
    Calls Try.prog 50 #[.int .i64 9, .int .u64 a, .int .u64 b] w fun e w' => e = .returned (.tuple #[.int .u64 (bits .and .u64 a b), .bool true]) ∧ w = w' := by
  go_enter Try.func50, Try.ntmps50
  go_wp2_with fail
  exact bodyPost_ret (v := .tuple #[.int .u64 (bits .and .u64 a b), .bool true]) (by simp [results, Try.results50, go_sem]) rfl ⟨rfl, rfl⟩

set_option maxHeartbeats 1000000 in
theorem rreck9 (a b : Int) (a0 : 0 ≤ a) (a1 : a < 18446744073709551616) (b0 : 0 ≤ b) (b1 : b < 18446744073709551616) (w : World) :
    Calls Try.prog 51 #[.int .i64 9, .int .u64 a, .int .u64 b] w fun e w' => e = .returned (.tuple #[.int .u64 (bits .and .u64 a b), .bool true]) ∧ w = w' := by
  go_enter Try.func51, Try.ntmps51
  go_wp2_with fail
  exact bodyPost_ret (v := .tuple #[.int .u64 (bits .and .u64 a b), .bool true]) (by simp [results, Try.results51, go_sem]) rfl ⟨rfl, rfl⟩

set_option maxHeartbeats 1000000 in
theorem reck10 (a b : Int) (a0 : 0 ≤ a) (a1 : a < 18446744073709551616) (b0 : 0 ≤ b) (b1 : b < 18446744073709551616) (w : World) :
    Calls Try.prog 50 #[.int .i64 10, .int .u64 a, .int .u64 b] w fun e w' => e = .returned (.tuple #[.int .u64 (bits .or .u64 a b), .bool true]) ∧ w = w' := by
  go_enter Try.func50, Try.ntmps50
  go_wp2_with fail
  exact bodyPost_ret (v := .tuple #[.int .u64 (bits .or .u64 a b), .bool true]) (by simp [results, Try.results50, go_sem]) rfl ⟨rfl, rfl⟩

set_option maxHeartbeats 1000000 in
theorem rreck10 (a b : Int) (a0 : 0 ≤ a) (a1 : a < 18446744073709551616) (b0 : 0 ≤ b) (b1 : b < 18446744073709551616) (w : World) :
    Calls Try.prog 51 #[.int .i64 10, .int .u64 a, .int .u64 b] w fun e w' => e = .returned (.tuple #[.int .u64 (bits .or .u64 a b), .bool true]) ∧ w = w' := by
  go_enter Try.func51, Try.ntmps51
  go_wp2_with fail
  exact bodyPost_ret (v := .tuple #[.int .u64 (bits .or .u64 a b), .bool true]) (by simp [results, Try.results51, go_sem]) rfl ⟨rfl, rfl⟩

set_option maxHeartbeats 1000000 in
theorem reck11 (a b : Int) (a0 : 0 ≤ a) (a1 : a < 18446744073709551616) (b0 : 0 ≤ b) (b1 : b < 18446744073709551616) (w : World) :
    Calls Try.prog 50 #[.int .i64 11, .int .u64 a, .int .u64 b] w fun e w' => e = .returned (.tuple #[.int .u64 (bits .xor .u64 a b), .bool true]) ∧ w = w' := by
  go_enter Try.func50, Try.ntmps50
  go_wp2_with fail
  exact bodyPost_ret (v := .tuple #[.int .u64 (bits .xor .u64 a b), .bool true]) (by simp [results, Try.results50, go_sem]) rfl ⟨rfl, rfl⟩

set_option maxHeartbeats 1000000 in
theorem rreck11 (a b : Int) (a0 : 0 ≤ a) (a1 : a < 18446744073709551616) (b0 : 0 ≤ b) (b1 : b < 18446744073709551616) (w : World) :
    Calls Try.prog 51 #[.int .i64 11, .int .u64 a, .int .u64 b] w fun e w' => e = .returned (.tuple #[.int .u64 (bits .xor .u64 a b), .bool true]) ∧ w = w' := by
  go_enter Try.func51, Try.ntmps51
  go_wp2_with fail
  exact bodyPost_ret (v := .tuple #[.int .u64 (bits .xor .u64 a b), .bool true]) (by simp [results, Try.results51, go_sem]) rfl ⟨rfl, rfl⟩

set_option maxHeartbeats 1000000 in
theorem reck12 (a b : Int) (a0 : 0 ≤ a) (a1 : a < 18446744073709551616) (b0 : 0 ≤ b) (b1 : b < 18446744073709551616) (w : World) :
    Calls Try.prog 50 #[.int .i64 12, .int .u64 a, .int .u64 b] w fun e w' => e = .returned (.tuple #[.int .u64 (IntKind.u64.wrap (a * 2 ^ (b % 64).toNat)), .bool true]) ∧ w = w' := by
  have hn := Alu.low6 b b0 b1
  have n0 : 0 ≤ b % 64 := by omega
  have n1 : b % 64 ≤ 64 := by omega
  go_enter Try.func50, Try.ntmps50
  go_wp2_with fail
  exact bodyPost_ret (v := .tuple #[.int .u64 (IntKind.u64.wrap (a * 2 ^ (b % 64).toNat)), .bool true]) (by simp [results, Try.results50, go_sem]) rfl ⟨rfl, rfl⟩

set_option maxHeartbeats 1000000 in
theorem rreck12 (a b : Int) (a0 : 0 ≤ a) (a1 : a < 18446744073709551616) (b0 : 0 ≤ b) (b1 : b < 18446744073709551616) (w : World) :
    Calls Try.prog 51 #[.int .i64 12, .int .u64 a, .int .u64 b] w fun e w' => e = .returned (.tuple #[.int .u64 (IntKind.u64.wrap (a * 2 ^ (b % 64).toNat)), .bool true]) ∧ w = w' := by
  have hn := Alu.low6 b b0 b1
  have n0 : 0 ≤ b % 64 := by omega
  have n1 : b % 64 ≤ 64 := by omega
  go_enter Try.func51, Try.ntmps51
  go_wp2_with fail
  exact bodyPost_ret (v := .tuple #[.int .u64 (IntKind.u64.wrap (a * 2 ^ (b % 64).toNat)), .bool true]) (by simp [results, Try.results51, go_sem]) rfl ⟨rfl, rfl⟩

set_option maxHeartbeats 1000000 in
theorem reck13 (a b : Int) (a0 : 0 ≤ a) (a1 : a < 18446744073709551616) (b0 : 0 ≤ b) (b1 : b < 18446744073709551616) (w : World) :
    Calls Try.prog 50 #[.int .i64 13, .int .u64 a, .int .u64 b] w fun e w' => e = .returned (.tuple #[.int .u64 (a / 2 ^ (b % 64).toNat), .bool true]) ∧ w = w' := by
  have hn := Alu.low6 b b0 b1
  have n0 : 0 ≤ b % 64 := by omega
  have n1 : b % 64 ≤ 64 := by omega
  go_enter Try.func50, Try.ntmps50
  go_wp2_with fail
  exact bodyPost_ret (v := .tuple #[.int .u64 (a / 2 ^ (b % 64).toNat), .bool true]) (by simp [results, Try.results50, go_sem]) rfl ⟨rfl, rfl⟩

set_option maxHeartbeats 1000000 in
theorem rreck13 (a b : Int) (a0 : 0 ≤ a) (a1 : a < 18446744073709551616) (b0 : 0 ≤ b) (b1 : b < 18446744073709551616) (w : World) :
    Calls Try.prog 51 #[.int .i64 13, .int .u64 a, .int .u64 b] w fun e w' => e = .returned (.tuple #[.int .u64 (a / 2 ^ (b % 64).toNat), .bool true]) ∧ w = w' := by
  have hn := Alu.low6 b b0 b1
  have n0 : 0 ≤ b % 64 := by omega
  have n1 : b % 64 ≤ 64 := by omega
  go_enter Try.func51, Try.ntmps51
  go_wp2_with fail
  exact bodyPost_ret (v := .tuple #[.int .u64 (a / 2 ^ (b % 64).toNat), .bool true]) (by simp [results, Try.results51, go_sem]) rfl ⟨rfl, rfl⟩

set_option maxHeartbeats 1000000 in
theorem reck14 (a b : Int) (a0 : 0 ≤ a) (a1 : a < 18446744073709551616) (b0 : 0 ≤ b) (b1 : b < 18446744073709551616) (w : World) :
    Calls Try.prog 50 #[.int .i64 14, .int .u64 a, .int .u64 b] w fun e w' => e = .returned (.tuple #[.int .u64 (IntKind.u64.wrap (wrap64 a / 2 ^ (b % 64).toNat)), .bool true]) ∧ w = w' := by
  have hn := Alu.low6 b b0 b1
  have n0 : 0 ≤ b % 64 := by omega
  have n1 : b % 64 ≤ 64 := by omega
  go_enter Try.func50, Try.ntmps50
  go_wp2_with fail
  exact bodyPost_ret (v := .tuple #[.int .u64 (IntKind.u64.wrap (wrap64 a / 2 ^ (b % 64).toNat)), .bool true]) (by simp [results, Try.results50, go_sem]) rfl ⟨rfl, rfl⟩

set_option maxHeartbeats 1000000 in
theorem reck15 (a b : Int) (a0 : 0 ≤ a) (a1 : a < 18446744073709551616) (b0 : 0 ≤ b) (b1 : b < 18446744073709551616) (w : World) :
    Calls Try.prog 50 #[.int .i64 15, .int .u64 a, .int .u64 b] w fun e w' => e = .returned (.tuple #[.int .u64 (Alu.bit (decide (wrap64 a < wrap64 b))), .bool true]) ∧ w = w' := by
  go_enter Try.func50, Try.ntmps50
  go_wp2_with fail
  refine (truth_any _ _).mono ?_
  rintro e w1 ⟨rfl, rfl⟩
  go_wp2_with fail
  exact bodyPost_ret (v := .tuple #[.int .u64 (Alu.bit (decide (wrap64 a < wrap64 b))), .bool true]) (by simp [results, Try.results50, go_sem]) rfl ⟨rfl, rfl⟩

set_option maxHeartbeats 1000000 in
theorem reck16 (a b : Int) (a0 : 0 ≤ a) (a1 : a < 18446744073709551616) (b0 : 0 ≤ b) (b1 : b < 18446744073709551616) (w : World) :
    Calls Try.prog 50 #[.int .i64 16, .int .u64 a, .int .u64 b] w fun e w' => e = .returned (.tuple #[.int .u64 (Alu.bit (decide (a < b))), .bool true]) ∧ w = w' := by
  go_enter Try.func50, Try.ntmps50
  go_wp2_with fail
  refine (truth_any _ _).mono ?_
  rintro e w1 ⟨rfl, rfl⟩
  go_wp2_with fail
  exact bodyPost_ret (v := .tuple #[.int .u64 (Alu.bit (decide (a < b))), .bool true]) (by simp [results, Try.results50, go_sem]) rfl ⟨rfl, rfl⟩

set_option maxHeartbeats 1000000 in
theorem rreck16 (a b : Int) (a0 : 0 ≤ a) (a1 : a < 18446744073709551616) (b0 : 0 ≤ b) (b1 : b < 18446744073709551616) (w : World) :
    Calls Try.prog 51 #[.int .i64 16, .int .u64 a, .int .u64 b] w fun e w' => e = .returned (.tuple #[.int .u64 (Alu.bit (decide (a < b))), .bool true]) ∧ w = w' := by
  go_enter Try.func51, Try.ntmps51
  go_wp2_with fail
  refine (rtruth_any _ _).mono ?_
  rintro e w1 ⟨rfl, rfl⟩
  go_wp2_with fail
  exact bodyPost_ret (v := .tuple #[.int .u64 (Alu.bit (decide (a < b))), .bool true]) (by simp [results, Try.results51, go_sem]) rfl ⟨rfl, rfl⟩

set_option maxHeartbeats 1000000 in
theorem reck17 (a b : Int) (a0 : 0 ≤ a) (a1 : a < 18446744073709551616) (b0 : 0 ≤ b) (b1 : b < 18446744073709551616) (w : World) :
    Calls Try.prog 50 #[.int .i64 17, .int .u64 a, .int .u64 b] w fun e w' => e = .returned (.tuple #[.int .u64 (Alu.bit (a == b)), .bool true]) ∧ w = w' := by
  go_enter Try.func50, Try.ntmps50
  go_wp2_with fail
  refine (truth_any _ _).mono ?_
  rintro e w1 ⟨rfl, rfl⟩
  go_wp2_with fail
  exact bodyPost_ret (v := .tuple #[.int .u64 (Alu.bit (a == b)), .bool true]) (by simp [results, Try.results50, go_sem]) rfl ⟨rfl, rfl⟩

set_option maxHeartbeats 1000000 in
theorem rreck17 (a b : Int) (a0 : 0 ≤ a) (a1 : a < 18446744073709551616) (b0 : 0 ≤ b) (b1 : b < 18446744073709551616) (w : World) :
    Calls Try.prog 51 #[.int .i64 17, .int .u64 a, .int .u64 b] w fun e w' => e = .returned (.tuple #[.int .u64 (Alu.bit (a == b)), .bool true]) ∧ w = w' := by
  go_enter Try.func51, Try.ntmps51
  go_wp2_with fail
  refine (rtruth_any _ _).mono ?_
  rintro e w1 ⟨rfl, rfl⟩
  go_wp2_with fail
  exact bodyPost_ret (v := .tuple #[.int .u64 (Alu.bit (a == b)), .bool true]) (by simp [results, Try.results51, go_sem]) rfl ⟨rfl, rfl⟩
end Go.Proofs.Ytelgmffmekfndaa
