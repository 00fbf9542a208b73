/- The contracts of alu's operations on numbers with a point. Condition: the words fit 64 bits. -/
import Derived.Test.YtelgmffmekfndaaAluIntsG
import Derived.Test.YtelgmffmekfndaaFltIntG
import Derived.Test.YtelgmffmekfndaaFltMinG
import Derived.Test.YtelgmffmekfndaaFltOrdG
set_option linter.unusedVariables false
namespace Go.Proofs.Ytelgmffmekfndaa
open Go.ChangeShapes Go.WideShapes Go.ChangeAt Go.RowKit
open Fl (numOf lessN sameN minW maxW whole word rung)

set_option maxHeartbeats 1000000 in
theorem flo31 (a b : Int) (a0 : 0 ≤ a) (a1 : a < 18446744073709551616) (b0 : 0 ≤ b) (b1 : b < 18446744073709551616) (w : World) :
    Calls Try.prog 76 #[.int .i64 31, .int .u64 a, .int .u64 b] w fun e w' => e = .returned (.tuple #[.int .u64 (((numOf (Ieee.double.add a.toNat b.toNat) : Nat) : Int)), .bool true]) ∧ Below w.heap.size w w' := by
  have h := add_any a b a0 a1 b0 b1
  generalize ((numOf (Ieee.double.add a.toNat b.toNat) : Nat) : Int) = V at *
  have H := Lib.hid h
  clear h
  go_enter Try.func76, Try.ntmps76
  go_wp2_with fail
  refine (H.out _).mono ?_
  rintro e w1 ⟨rfl, hb1⟩
  go_wp2_with fail
  exact bodyPost_ret (v := .tuple #[.int .u64 (V), .bool true]) (by simp [results, Try.results76, go_sem]) rfl ⟨rfl, hb1⟩

set_option maxHeartbeats 1000000 in
theorem flo32 (a b : Int) (a0 : 0 ≤ a) (a1 : a < 18446744073709551616) (b0 : 0 ≤ b) (b1 : b < 18446744073709551616) (w : World) :
    Calls Try.prog 76 #[.int .i64 32, .int .u64 a, .int .u64 b] w fun e w' => e = .returned (.tuple #[.int .u64 (((numOf (Ieee.double.sub a.toNat b.toNat) : Nat) : Int)), .bool true]) ∧ Below w.heap.size w w' := by
  have h := sub_any a b a0 a1 b0 b1
  generalize ((numOf (Ieee.double.sub a.toNat b.toNat) : Nat) : Int) = V at *
  have H := Lib.hid h
  clear h
  go_enter Try.func76, Try.ntmps76
  go_wp2_with fail
  refine (H.out _).mono ?_
  rintro e w1 ⟨rfl, hb1⟩
  go_wp2_with fail
  exact bodyPost_ret (v := .tuple #[.int .u64 (V), .bool true]) (by simp [results, Try.results76, go_sem]) rfl ⟨rfl, hb1⟩

set_option maxHeartbeats 1000000 in
theorem flo33 (a b : Int) (a0 : 0 ≤ a) (a1 : a < 18446744073709551616) (b0 : 0 ≤ b) (b1 : b < 18446744073709551616) (w : World) :
    Calls Try.prog 76 #[.int .i64 33, .int .u64 a, .int .u64 b] w fun e w' => e = .returned (.tuple #[.int .u64 (((numOf (Ieee.double.mul a.toNat b.toNat) : Nat) : Int)), .bool true]) ∧ Below w.heap.size w w' := by
  have h := mul_any a b a0 a1 b0 b1
  generalize ((numOf (Ieee.double.mul a.toNat b.toNat) : Nat) : Int) = V at *
  have H := Lib.hid h
  clear h
  go_enter Try.func76, Try.ntmps76
  go_wp2_with fail
  refine (H.out _).mono ?_
  rintro e w1 ⟨rfl, hb1⟩
  go_wp2_with fail
  exact bodyPost_ret (v := .tuple #[.int .u64 (V), .bool true]) (by simp [results, Try.results76, go_sem]) rfl ⟨rfl, hb1⟩

set_option maxHeartbeats 1000000 in
theorem flo34 (a b : Int) (a0 : 0 ≤ a) (a1 : a < 18446744073709551616) (b0 : 0 ≤ b) (b1 : b < 18446744073709551616) (w : World) :
    Calls Try.prog 76 #[.int .i64 34, .int .u64 a, .int .u64 b] w fun e w' => e = .returned (.tuple #[.int .u64 (((numOf (Ieee.double.div a.toNat b.toNat) : Nat) : Int)), .bool true]) ∧ Below w.heap.size w w' := by
  have h := div_any a b a0 a1 b0 b1
  generalize ((numOf (Ieee.double.div a.toNat b.toNat) : Nat) : Int) = V at *
  have H := Lib.hid h
  clear h
  go_enter Try.func76, Try.ntmps76
  go_wp2_with fail
  refine (H.out _).mono ?_
  rintro e w1 ⟨rfl, hb1⟩
  go_wp2_with fail
  exact bodyPost_ret (v := .tuple #[.int .u64 (V), .bool true]) (by simp [results, Try.results76, go_sem]) rfl ⟨rfl, hb1⟩

set_option maxHeartbeats 1000000 in
theorem flo35 (a b : Int) (a0 : 0 ≤ a) (a1 : a < 18446744073709551616) (b0 : 0 ≤ b) (b1 : b < 18446744073709551616) (w : World) :
    Calls Try.prog 76 #[.int .i64 35, .int .u64 a, .int .u64 b] w fun e w' => e = .returned (.tuple #[.int .u64 (((minW a.toNat b.toNat : Nat) : Int)), .bool true]) ∧ Below w.heap.size w w' := by
  have h := min_any a b a0 a1 b0 b1
  generalize ((minW a.toNat b.toNat : Nat) : Int) = V at *
  have H := Lib.hid h
  clear h
  go_enter Try.func76, Try.ntmps76
  go_wp2_with fail
  refine (H.out _).mono ?_
  rintro e w1 ⟨rfl, hb1⟩
  go_wp2_with fail
  exact bodyPost_ret (v := .tuple #[.int .u64 (V), .bool true]) (by simp [results, Try.results76, go_sem]) rfl ⟨rfl, hb1⟩

set_option maxHeartbeats 1000000 in
theorem flo36 (a b : Int) (a0 : 0 ≤ a) (a1 : a < 18446744073709551616) (b0 : 0 ≤ b) (b1 : b < 18446744073709551616) (w : World) :
    Calls Try.prog 76 #[.int .i64 36, .int .u64 a, .int .u64 b] w fun e w' => e = .returned (.tuple #[.int .u64 (((maxW a.toNat b.toNat : Nat) : Int)), .bool true]) ∧ Below w.heap.size w w' := by
  have h := max_any a b a0 a1 b0 b1
  generalize ((maxW a.toNat b.toNat : Nat) : Int) = V at *
  have H := Lib.hid h
  clear h
  go_enter Try.func76, Try.ntmps76
  go_wp2_with fail
  refine (H.out _).mono ?_
  rintro e w1 ⟨rfl, hb1⟩
  go_wp2_with fail
  exact bodyPost_ret (v := .tuple #[.int .u64 (V), .bool true]) (by simp [results, Try.results76, go_sem]) rfl ⟨rfl, hb1⟩

set_option maxHeartbeats 1000000 in
theorem flo37 (a b : Int) (a0 : 0 ≤ a) (a1 : a < 18446744073709551616) (b0 : 0 ≤ b) (b1 : b < 18446744073709551616) (w : World) :
    Calls Try.prog 76 #[.int .i64 37, .int .u64 a, .int .u64 b] w fun e w' => e = .returned (.tuple #[.int .u64 (Alu.bit (lessN a.toNat b.toNat)), .bool true]) ∧ Below w.heap.size w w' := by
  have h := less_any a b a0 a1 b0 b1
  generalize lessN a.toNat b.toNat = V at *
  have H := Lib.hid h
  clear h
  go_enter Try.func76, Try.ntmps76
  go_wp2_with fail
  refine (H.out _).mono ?_
  rintro e w1 ⟨rfl, rfl⟩
  go_wp2_with fail
  refine (truth_any _ _).mono ?_
  rintro e w2 ⟨rfl, rfl⟩
  go_wp2_with fail
  exact bodyPost_ret (v := .tuple #[.int .u64 (Alu.bit V), .bool true]) (by simp [results, Try.results76, go_sem]) rfl ⟨rfl, Below.refl _ _⟩

set_option maxHeartbeats 1000000 in
theorem flo38 (a b : Int) (a0 : 0 ≤ a) (a1 : a < 18446744073709551616) (b0 : 0 ≤ b) (b1 : b < 18446744073709551616) (w : World) :
    Calls Try.prog 76 #[.int .i64 38, .int .u64 a, .int .u64 b] w fun e w' => e = .returned (.tuple #[.int .u64 (Alu.bit (sameN a.toNat b.toNat)), .bool true]) ∧ Below w.heap.size w w' := by
  have h := same_any a b a0 a1 b0 b1
  generalize sameN a.toNat b.toNat = V at *
  have H := Lib.hid h
  clear h
  go_enter Try.func76, Try.ntmps76
  go_wp2_with fail
  refine (H.out _).mono ?_
  rintro e w1 ⟨rfl, rfl⟩
  go_wp2_with fail
  refine (truth_any _ _).mono ?_
  rintro e w2 ⟨rfl, rfl⟩
  go_wp2_with fail
  exact bodyPost_ret (v := .tuple #[.int .u64 (Alu.bit V), .bool true]) (by simp [results, Try.results76, go_sem]) rfl ⟨rfl, Below.refl _ _⟩

set_option maxHeartbeats 1000000 in
theorem flo39 (a b : Int) (a0 : 0 ≤ a) (a1 : a < 18446744073709551616) (b0 : 0 ≤ b) (b1 : b < 18446744073709551616) (w : World) :
    Calls Try.prog 76 #[.int .i64 39, .int .u64 a, .int .u64 b] w fun e w' => e = .returned (.tuple #[.int .u64 (((numOf (Ieee.double.sqrt a.toNat) : Nat) : Int)), .bool true]) ∧ Below w.heap.size w w' := by
  have h := sqrt_any a a0 a1
  generalize ((numOf (Ieee.double.sqrt a.toNat) : Nat) : Int) = V at *
  have H := Lib.hid h
  clear h
  go_enter Try.func76, Try.ntmps76
  go_wp2_with fail
  refine (H.out _).mono ?_
  rintro e w1 ⟨rfl, hb1⟩
  go_wp2_with fail
  exact bodyPost_ret (v := .tuple #[.int .u64 (V), .bool true]) (by simp [results, Try.results76, go_sem]) rfl ⟨rfl, hb1⟩

set_option maxHeartbeats 1000000 in
theorem flo40 (a b : Int) (a0 : 0 ≤ a) (a1 : a < 18446744073709551616) (b0 : 0 ≤ b) (b1 : b < 18446744073709551616) (w : World) :
    Calls Try.prog 76 #[.int .i64 40, .int .u64 a, .int .u64 b] w fun e w' => e = .returned (.tuple #[.int .u64 (IntKind.u64.wrap (whole a.toNat)), .bool true]) ∧ Below w.heap.size w w' := by
  have h := toint_any a a0 a1
  generalize whole a.toNat = V at *
  have H := Lib.hid h
  clear h
  go_enter Try.func76, Try.ntmps76
  go_wp2_with fail
  refine (H.out _).mono ?_
  rintro e w1 ⟨rfl, rfl⟩
  go_wp2_with fail
  exact bodyPost_ret (v := .tuple #[.int .u64 (IntKind.u64.wrap V), .bool true]) (by simp [results, Try.results76, go_sem]) rfl ⟨rfl, Below.refl _ _⟩

set_option maxHeartbeats 1000000 in
theorem flo41 (a b : Int) (a0 : 0 ≤ a) (a1 : a < 18446744073709551616) (b0 : 0 ≤ b) (b1 : b < 18446744073709551616) (w : World) :
    Calls Try.prog 76 #[.int .i64 41, .int .u64 a, .int .u64 b] w fun e w' => e = .returned (.tuple #[.int .u64 (((word (decide (wrap64 a < 0)) (rung (wrap64 a).natAbs 0) : Nat) : Int)), .bool true]) ∧ Below w.heap.size w w' := by
  have h := fromint_any (wrap64 a)
  generalize ((word (decide (wrap64 a < 0)) (rung (wrap64 a).natAbs 0) : Nat) : Int) = V at *
  have H := Lib.hid h
  clear h
  go_enter Try.func76, Try.ntmps76
  go_wp2_with fail
  refine (H.out _).mono ?_
  rintro e w1 ⟨rfl, rfl⟩
  go_wp2_with fail
  exact bodyPost_ret (v := .tuple #[.int .u64 (V), .bool true]) (by simp [results, Try.results76, go_sem]) rfl ⟨rfl, Below.refl _ _⟩

set_option maxHeartbeats 1000000 in
theorem flo42 (a b : Int) (a0 : 0 ≤ a) (a1 : a < 18446744073709551616) (b0 : 0 ≤ b) (b1 : b < 18446744073709551616) (w : World) :
    Calls Try.prog 76 #[.int .i64 42, .int .u64 a, .int .u64 b] w fun e w' => e = .returned (.tuple #[.int .u64 (((classN a.toNat : Nat) : Int)), .bool true]) ∧ Below w.heap.size w w' := by
  have h := class_any a a0 a1
  have hc : (0 : Int) ≤ classN a.toNat ∧ (classN a.toNat : Int) ≤ 4 := by unfold classN; (repeat' split) <;> omega
  generalize ((classN a.toNat : Nat) : Int) = V at *
  have H := Lib.hid h
  clear h
  go_enter Try.func76, Try.ntmps76
  go_wp2_with fail
  refine (H.out _).mono ?_
  rintro e w1 ⟨rfl, rfl⟩
  go_wp2_with fail
  exact bodyPost_ret (v := .tuple #[.int .u64 (V), .bool true]) (by simp [results, Try.results76, go_sem]) rfl ⟨rfl, Below.refl _ _⟩

theorem flo_none (op a b : Int) (h31 : (op == 31) = false) (h32 : (op == 32) = false) (h33 : (op == 33) = false) (h34 : (op == 34) = false) (h35 : (op == 35) = false) (h36 : (op == 36) = false) (h37 : (op == 37) = false) (h38 : (op == 38) = false) (h39 : (op == 39) = false) (h40 : (op == 40) = false) (h41 : (op == 41) = false) (h42 : (op == 42) = false) (w : World) :
    Calls Try.prog 76 #[.int .i64 op, .int .u64 a, .int .u64 b] w fun e w' => e = .returned (.tuple #[.int .u64 0, .bool false]) ∧ Below w.heap.size w w' := by
  go_enter Try.func76, Try.ntmps76
  go_wp2_with fail
  exact bodyPost_ret (v := .tuple #[.int .u64 (0), .bool false]) (by simp [results, Try.results76, go_sem]) rfl ⟨rfl, Below.refl _ _⟩
end Go.Proofs.Ytelgmffmekfndaa
