/- The contracts of alu's quotient and of the reference's helpers. Conditions: the numbers fit their kinds. -/
import Derived.Test.YtelgmffmekfndaaAluInt
set_option linter.unusedVariables false
namespace Go.Proofs.Ytelgmffmekfndaa
open Go.ChangeShapes Go.WideShapes Go.ChangeAt Go.RowKit

theorem quot_zero (op x : Int) (w : World) :
    Calls Try.prog 74 #[.int .i64 op, .int .i64 x, .int .i64 0] w fun e w' => e = .returned (.tuple #[.int .u64 0, .bool false]) ∧ w = w' := by
  go_enter Try.func74, Try.ntmps74
  go_wp2_with fail
  exact bodyPost_ret (v := .tuple #[.int .u64 0, .bool false]) (by simp [results, Try.results74, go_sem]) rfl ⟨rfl, rfl⟩

theorem wrap_wrap (q : Int) : IntKind.u64.wrap (wrap64 q) = IntKind.u64.wrap q := by
  rw [IntKind.wrap_u64, IntKind.wrap_u64]; unfold wrap64; omega
theorem wrap_quo (q : Int) : IntKind.u64.wrap (wrap64 q) = IntKind.u64.wrap q := wrap_wrap q

set_option maxHeartbeats 1000000 in
theorem quot_div (x y : Int) (x0 : -9223372036854775808 ≤ x) (x1 : x ≤ 9223372036854775807) (y0 : -9223372036854775808 ≤ y) (y1 : y ≤ 9223372036854775807) (hy : (y == 0) = false) (w : World) :
    Calls Try.prog 74 #[.int .i64 7, .int .i64 x, .int .i64 y] w fun e w' => e = .returned (.tuple #[.int .u64 (IntKind.u64.wrap (x.tdiv y)), .bool true]) ∧ w = w' := by
  have hy2 : y ≠ 0 := by intro e; subst e; exact absurd hy (by decide)
  cases hx : (x == -9223372036854775808)
  · go_enter Try.func74, Try.ntmps74
    go_wp2_with fail
    exact bodyPost_ret (v := .tuple #[.int .u64 (IntKind.u64.wrap (wrap64 (x.tdiv y))), .bool true]) (by simp [results, Try.results74, go_sem]) rfl ⟨by rw [wrap_wrap], rfl⟩
  · cases hm : (y == -1)
    · go_enter Try.func74, Try.ntmps74
      go_wp2_with fail
      exact bodyPost_ret (v := .tuple #[.int .u64 (IntKind.u64.wrap (wrap64 (x.tdiv y))), .bool true]) (by simp [results, Try.results74, go_sem]) rfl ⟨by rw [wrap_wrap], rfl⟩
    · have ex : x = -9223372036854775808 := by simpa using hx
      have ey : y = -1 := by simpa using hm
      subst ex ey
      go_enter Try.func74, Try.ntmps74
      go_wp2_with fail
      exact bodyPost_ret (v := .tuple #[.int .u64 (IntKind.u64.wrap (-9223372036854775808)), .bool true]) (by simp [results, Try.results74, go_sem]) rfl ⟨by rfl, rfl⟩

set_option maxHeartbeats 1000000 in
theorem quot_rem (x y : Int) (x0 : -9223372036854775808 ≤ x) (x1 : x ≤ 9223372036854775807) (y0 : -9223372036854775808 ≤ y) (y1 : y ≤ 9223372036854775807) (hy : (y == 0) = false) (w : World) :
    Calls Try.prog 74 #[.int .i64 8, .int .i64 x, .int .i64 y] w fun e w' => e = .returned (.tuple #[.int .u64 (IntKind.u64.wrap (x.tmod y)), .bool true]) ∧ w = w' := by
  have hy2 : y ≠ 0 := by intro e; subst e; exact absurd hy (by decide)
  cases hx : (x == -9223372036854775808)
  · go_enter Try.func74, Try.ntmps74
    go_wp2_with fail
    exact bodyPost_ret (v := .tuple #[.int .u64 (IntKind.u64.wrap (x.tmod y)), .bool true]) (by simp [results, Try.results74, go_sem]) rfl ⟨rfl, rfl⟩
  · cases hm : (y == -1)
    · go_enter Try.func74, Try.ntmps74
      go_wp2_with fail
      exact bodyPost_ret (v := .tuple #[.int .u64 (IntKind.u64.wrap (x.tmod y)), .bool true]) (by simp [results, Try.results74, go_sem]) rfl ⟨rfl, rfl⟩
    · have ex : x = -9223372036854775808 := by simpa using hx
      have ey : y = -1 := by simpa using hm
      subst ex ey
      go_enter Try.func74, Try.ntmps74
      go_wp2_with fail
      exact bodyPost_ret (v := .tuple #[.int .u64 0, .bool true]) (by simp [results, Try.results74, go_sem]) rfl ⟨by rfl, rfl⟩

theorem rabs_pos (a : Int) (a0 : 0 ≤ a) (a1 : a < 9223372036854775808) (w : World) :
    Calls Try.prog 77 #[.int .u64 a] w fun e w' => e = .returned (.tuple #[.int .u64 a, .bool false]) ∧ w = w' := by
  have h : a / 9223372036854775808 = 0 := by omega
  go_enter Try.func77, Try.ntmps77
  go_wp2_with fail
  exact bodyPost_ret (v := .tuple #[.int .u64 a, .bool false]) (by simp [results, Try.results77, go_sem]) rfl ⟨rfl, rfl⟩
theorem rabs_neg (a : Int) (a0 : 9223372036854775808 ≤ a) (a1 : a < 18446744073709551616) (w : World) :
    Calls Try.prog 77 #[.int .u64 a] w fun e w' => e = .returned (.tuple #[.int .u64 (18446744073709551616 - a), .bool true]) ∧ w = w' := by
  have h : a / 9223372036854775808 = 1 := by omega
  have h2 : IntKind.u64.wrap (-a) = 18446744073709551616 - a := by rw [IntKind.wrap_u64]; omega
  go_enter Try.func77, Try.ntmps77
  go_wp2_with fail
  exact bodyPost_ret (v := .tuple #[.int .u64 (18446744073709551616 - a), .bool true]) (by simp [results, Try.results77, go_sem]) rfl ⟨rfl, rfl⟩

theorem rbelow_any (a b : Int) (a0 : 0 ≤ a) (a1 : a < 18446744073709551616) (b0 : 0 ≤ b) (b1 : b < 18446744073709551616) (w : World) :
    Calls Try.prog 79 #[.int .u64 a, .int .u64 b] w fun e w' => e = .returned (.bool (decide (wrap64 a < wrap64 b))) ∧ w = w' := by
  have ha := Alu.top_xor a a0 a1
  have hb := Alu.top_xor b b0 b1
  have e : decide (wrap64 a < wrap64 b) = decide (wrap64 a + 9223372036854775808 < wrap64 b + 9223372036854775808) := by
    rw [decide_eq_decide]; omega
  rw [e]
  go_enter Try.func79, Try.ntmps79
  go_wp2_with fail
  go_ret
  exact ⟨rfl, rfl⟩
end Go.Proofs.Ytelgmffmekfndaa
