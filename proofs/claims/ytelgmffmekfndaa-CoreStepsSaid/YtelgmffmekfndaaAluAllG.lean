/- The contracts of alu's operations on numbers with a point and without: Reckon at every operation. Condition: the words fit 64 bits. -/
import Derived.Test.YtelgmffmekfndaaAluFltG
import Derived.Test.YtelgmffmekfndaaAluFltRG
set_option linter.unusedVariables false
namespace Go.Proofs.Ytelgmffmekfndaa
open Go.ChangeShapes Go.WideShapes Go.ChangeAt Go.RowKit
open Fl (numOf lessN sameN minW maxW whole word rung)

set_option maxHeartbeats 1000000 in
theorem reck_flo (op a b v : Int) (ok : Bool) (h4 : (op == 4) = false) (h5 : (op == 5) = false) (h6 : (op == 6) = false) (h7 : (op == 7) = false) (h8 : (op == 8) = false) (h9 : (op == 9) = false) (h10 : (op == 10) = false) (h11 : (op == 11) = false) (h12 : (op == 12) = false) (h13 : (op == 13) = false) (h14 : (op == 14) = false) (h15 : (op == 15) = false) (h16 : (op == 16) = false) (h17 : (op == 17) = false)
    (hF : ∀ w, Calls Try.prog 76 #[.int .i64 op, .int .u64 a, .int .u64 b] w fun e w' => e = .returned (.tuple #[.int .u64 v, .bool ok]) ∧ Below w.heap.size w w') (w : World) :
    Calls Try.prog 50 #[.int .i64 op, .int .u64 a, .int .u64 b] w fun e w' => e = .returned (.tuple #[.int .u64 v, .bool ok]) ∧ Below w.heap.size w w' := by
  have H := Lib.hid hF
  clear hF
  go_enter Try.func50, Try.ntmps50
  go_wp2_with fail
  refine (H.out _).mono ?_
  rintro e w1 ⟨rfl, hb1⟩
  go_wp2_with fail
  exact bodyPost_ret (v := .tuple #[.int .u64 (v), .bool ok]) (by simp [results, Try.results50, go_sem]) rfl ⟨rfl, hb1⟩

set_option maxHeartbeats 1000000 in
theorem rreck_flo (op a b v : Int) (ok : Bool) (h4 : (op == 4) = false) (h5 : (op == 5) = false) (h6 : (op == 6) = false) (h7 : (op == 7) = false) (h8 : (op == 8) = false) (h9 : (op == 9) = false) (h10 : (op == 10) = false) (h11 : (op == 11) = false) (h12 : (op == 12) = false) (h13 : (op == 13) = false) (h14 : (op == 14) = false) (h15 : (op == 15) = false) (h16 : (op == 16) = false) (h17 : (op == 17) = false)
    (hF : ∀ w, Calls Try.prog 80 #[.int .i64 op, .int .u64 a, .int .u64 b] w fun e w' => e = .returned (.tuple #[.int .u64 v, .bool ok]) ∧ Below w.heap.size w w') (w : World) :
    Calls Try.prog 51 #[.int .i64 op, .int .u64 a, .int .u64 b] w fun e w' => e = .returned (.tuple #[.int .u64 v, .bool ok]) ∧ Below w.heap.size w w' := by
  have H := Lib.hid hF
  clear hF
  go_enter Try.func51, Try.ntmps51
  go_wp2_with fail
  refine (H.out _).mono ?_
  rintro e w1 ⟨rfl, hb1⟩
  go_wp2_with fail
  exact bodyPost_ret (v := .tuple #[.int .u64 (v), .bool ok]) (by simp [results, Try.results51, go_sem]) rfl ⟨rfl, hb1⟩

/-- the two answer alike, and only what is new changes -/
def Alike (op a b : Int) : Prop := ∃ (v : Int) (ok : Bool), (∀ w, Calls Try.prog 50 #[.int .i64 op, .int .u64 a, .int .u64 b] w fun e w' => e = .returned (.tuple #[.int .u64 v, .bool ok]) ∧ Below w.heap.size w w') ∧
  ∀ w, Calls Try.prog 51 #[.int .i64 op, .int .u64 a, .int .u64 b] w fun e w' => e = .returned (.tuple #[.int .u64 v, .bool ok]) ∧ Below w.heap.size w w'

theorem still {f : Nat} {args : Array Value} {v : Value} (h : ∀ w, Calls Try.prog f args w fun e w' => e = .returned v ∧ w = w') (w : World) : Calls Try.prog f args w fun e w' => e = .returned v ∧ Below w.heap.size w w' := by
  refine (h w).mono ?_
  rintro e w1 ⟨rfl, rfl⟩
  exact ⟨rfl, Below.refl _ _⟩

theorem alike (op a b : Int) (a0 : 0 ≤ a) (a1 : a < 18446744073709551616) (b0 : 0 ≤ b) (b1 : b < 18446744073709551616) : Alike op a b := by
  by_cases e4 : op = 4
  · subst e4
    exact ⟨_, _, still (reck4 a b a0 a1 b0 b1), still (rreck4 a b a0 a1 b0 b1)⟩
  by_cases e5 : op = 5
  · subst e5
    exact ⟨_, _, still (reck5 a b a0 a1 b0 b1), still (rreck5 a b a0 a1 b0 b1)⟩
  by_cases e6 : op = 6
  · subst e6
    exact ⟨_, _, still (reck6 a b a0 a1 b0 b1), still (rreck6 a b a0 a1 b0 b1)⟩
  by_cases e7 : op = 7
  · subst e7
    by_cases z : b = 0
    · subst z
      exact ⟨_, _, still (reck7_zero a a0 a1), still (rreck7_zero a a0 a1)⟩
    · exact ⟨_, _, still (reck7 a b a0 a1 (by omega) b1), still (rreck7 a b a0 a1 (by omega) b1)⟩
  by_cases e8 : op = 8
  · subst e8
    by_cases z : b = 0
    · subst z
      exact ⟨_, _, still (reck8_zero a a0 a1), still (rreck8_zero a a0 a1)⟩
    · exact ⟨_, _, still (reck8 a b a0 a1 (by omega) b1), still (rreck8 a b a0 a1 (by omega) b1)⟩
  by_cases e9 : op = 9
  · subst e9
    exact ⟨_, _, still (reck9 a b a0 a1 b0 b1), still (rreck9 a b a0 a1 b0 b1)⟩
  by_cases e10 : op = 10
  · subst e10
    exact ⟨_, _, still (reck10 a b a0 a1 b0 b1), still (rreck10 a b a0 a1 b0 b1)⟩
  by_cases e11 : op = 11
  · subst e11
    exact ⟨_, _, still (reck11 a b a0 a1 b0 b1), still (rreck11 a b a0 a1 b0 b1)⟩
  by_cases e12 : op = 12
  · subst e12
    exact ⟨_, _, still (reck12 a b a0 a1 b0 b1), still (rreck12 a b a0 a1 b0 b1)⟩
  by_cases e13 : op = 13
  · subst e13
    exact ⟨_, _, still (reck13 a b a0 a1 b0 b1), still (rreck13 a b a0 a1 b0 b1)⟩
  by_cases e14 : op = 14
  · subst e14
    exact ⟨_, _, still (reck14 a b a0 a1 b0 b1), still (rreck14 a b a0 a1 b0 b1)⟩
  by_cases e15 : op = 15
  · subst e15
    exact ⟨_, _, still (reck15 a b a0 a1 b0 b1), still (rreck15 a b a0 a1 b0 b1)⟩
  by_cases e16 : op = 16
  · subst e16
    exact ⟨_, _, still (reck16 a b a0 a1 b0 b1), still (rreck16 a b a0 a1 b0 b1)⟩
  by_cases e17 : op = 17
  · subst e17
    exact ⟨_, _, still (reck17 a b a0 a1 b0 b1), still (rreck17 a b a0 a1 b0 b1)⟩
  have bf : ∀ k : Int, op ≠ k → (op == k) = false := fun k h => beq_eq_false_iff_ne.2 h
  by_cases e31 : op = 31
  · subst e31
    exact ⟨_, _, reck_flo _ a b _ _ (by decide) (by decide) (by decide) (by decide) (by decide) (by decide) (by decide) (by decide) (by decide) (by decide) (by decide) (by decide) (by decide) (by decide) (flo31 a b a0 a1 b0 b1), rreck_flo _ a b _ _ (by decide) (by decide) (by decide) (by decide) (by decide) (by decide) (by decide) (by decide) (by decide) (by decide) (by decide) (by decide) (by decide) (by decide) (rflo31 a b a0 a1 b0 b1)⟩
  by_cases e32 : op = 32
  · subst e32
    exact ⟨_, _, reck_flo _ a b _ _ (by decide) (by decide) (by decide) (by decide) (by decide) (by decide) (by decide) (by decide) (by decide) (by decide) (by decide) (by decide) (by decide) (by decide) (flo32 a b a0 a1 b0 b1), rreck_flo _ a b _ _ (by decide) (by decide) (by decide) (by decide) (by decide) (by decide) (by decide) (by decide) (by decide) (by decide) (by decide) (by decide) (by decide) (by decide) (rflo32 a b a0 a1 b0 b1)⟩
  by_cases e33 : op = 33
  · subst e33
    exact ⟨_, _, reck_flo _ a b _ _ (by decide) (by decide) (by decide) (by decide) (by decide) (by decide) (by decide) (by decide) (by decide) (by decide) (by decide) (by decide) (by decide) (by decide) (flo33 a b a0 a1 b0 b1), rreck_flo _ a b _ _ (by decide) (by decide) (by decide) (by decide) (by decide) (by decide) (by decide) (by decide) (by decide) (by decide) (by decide) (by decide) (by decide) (by decide) (rflo33 a b a0 a1 b0 b1)⟩
  by_cases e34 : op = 34
  · subst e34
    exact ⟨_, _, reck_flo _ a b _ _ (by decide) (by decide) (by decide) (by decide) (by decide) (by decide) (by decide) (by decide) (by decide) (by decide) (by decide) (by decide) (by decide) (by decide) (flo34 a b a0 a1 b0 b1), rreck_flo _ a b _ _ (by decide) (by decide) (by decide) (by decide) (by decide) (by decide) (by decide) (by decide) (by decide) (by decide) (by decide) (by decide) (by decide) (by decide) (rflo34 a b a0 a1 b0 b1)⟩
  by_cases e35 : op = 35
  · subst e35
    exact ⟨_, _, reck_flo _ a b _ _ (by decide) (by decide) (by decide) (by decide) (by decide) (by decide) (by decide) (by decide) (by decide) (by decide) (by decide) (by decide) (by decide) (by decide) (flo35 a b a0 a1 b0 b1), rreck_flo _ a b _ _ (by decide) (by decide) (by decide) (by decide) (by decide) (by decide) (by decide) (by decide) (by decide) (by decide) (by decide) (by decide) (by decide) (by decide) (rflo35 a b a0 a1 b0 b1)⟩
  by_cases e36 : op = 36
  · subst e36
    exact ⟨_, _, reck_flo _ a b _ _ (by decide) (by decide) (by decide) (by decide) (by decide) (by decide) (by decide) (by decide) (by decide) (by decide) (by decide) (by decide) (by decide) (by decide) (flo36 a b a0 a1 b0 b1), rreck_flo _ a b _ _ (by decide) (by decide) (by decide) (by decide) (by decide) (by decide) (by decide) (by decide) (by decide) (by decide) (by decide) (by decide) (by decide) (by decide) (rflo36 a b a0 a1 b0 b1)⟩
  by_cases e37 : op = 37
  · subst e37
    exact ⟨_, _, reck_flo _ a b _ _ (by decide) (by decide) (by decide) (by decide) (by decide) (by decide) (by decide) (by decide) (by decide) (by decide) (by decide) (by decide) (by decide) (by decide) (flo37 a b a0 a1 b0 b1), rreck_flo _ a b _ _ (by decide) (by decide) (by decide) (by decide) (by decide) (by decide) (by decide) (by decide) (by decide) (by decide) (by decide) (by decide) (by decide) (by decide) (rflo37 a b a0 a1 b0 b1)⟩
  by_cases e38 : op = 38
  · subst e38
    exact ⟨_, _, reck_flo _ a b _ _ (by decide) (by decide) (by decide) (by decide) (by decide) (by decide) (by decide) (by decide) (by decide) (by decide) (by decide) (by decide) (by decide) (by decide) (flo38 a b a0 a1 b0 b1), rreck_flo _ a b _ _ (by decide) (by decide) (by decide) (by decide) (by decide) (by decide) (by decide) (by decide) (by decide) (by decide) (by decide) (by decide) (by decide) (by decide) (rflo38 a b a0 a1 b0 b1)⟩
  by_cases e39 : op = 39
  · subst e39
    exact ⟨_, _, reck_flo _ a b _ _ (by decide) (by decide) (by decide) (by decide) (by decide) (by decide) (by decide) (by decide) (by decide) (by decide) (by decide) (by decide) (by decide) (by decide) (flo39 a b a0 a1 b0 b1), rreck_flo _ a b _ _ (by decide) (by decide) (by decide) (by decide) (by decide) (by decide) (by decide) (by decide) (by decide) (by decide) (by decide) (by decide) (by decide) (by decide) (rflo39 a b a0 a1 b0 b1)⟩
  by_cases e40 : op = 40
  · subst e40
    exact ⟨_, _, reck_flo _ a b _ _ (by decide) (by decide) (by decide) (by decide) (by decide) (by decide) (by decide) (by decide) (by decide) (by decide) (by decide) (by decide) (by decide) (by decide) (flo40 a b a0 a1 b0 b1), rreck_flo _ a b _ _ (by decide) (by decide) (by decide) (by decide) (by decide) (by decide) (by decide) (by decide) (by decide) (by decide) (by decide) (by decide) (by decide) (by decide) (rflo40 a b a0 a1 b0 b1)⟩
  by_cases e41 : op = 41
  · subst e41
    exact ⟨_, _, reck_flo _ a b _ _ (by decide) (by decide) (by decide) (by decide) (by decide) (by decide) (by decide) (by decide) (by decide) (by decide) (by decide) (by decide) (by decide) (by decide) (flo41 a b a0 a1 b0 b1), rreck_flo _ a b _ _ (by decide) (by decide) (by decide) (by decide) (by decide) (by decide) (by decide) (by decide) (by decide) (by decide) (by decide) (by decide) (by decide) (by decide) (rflo41 a b a0 a1 b0 b1)⟩
  by_cases e42 : op = 42
  · subst e42
    exact ⟨_, _, reck_flo _ a b _ _ (by decide) (by decide) (by decide) (by decide) (by decide) (by decide) (by decide) (by decide) (by decide) (by decide) (by decide) (by decide) (by decide) (by decide) (flo42 a b a0 a1 b0 b1), rreck_flo _ a b _ _ (by decide) (by decide) (by decide) (by decide) (by decide) (by decide) (by decide) (by decide) (by decide) (by decide) (by decide) (by decide) (by decide) (by decide) (rflo42 a b a0 a1 b0 b1)⟩
  exact ⟨_, _, reck_flo _ a b _ _ (bf _ e4) (bf _ e5) (bf _ e6) (bf _ e7) (bf _ e8) (bf _ e9) (bf _ e10) (bf _ e11) (bf _ e12) (bf _ e13) (bf _ e14) (bf _ e15) (bf _ e16) (bf _ e17) (flo_none op a b (bf _ e31) (bf _ e32) (bf _ e33) (bf _ e34) (bf _ e35) (bf _ e36) (bf _ e37) (bf _ e38) (bf _ e39) (bf _ e40) (bf _ e41) (bf _ e42)), rreck_flo _ a b _ _ (bf _ e4) (bf _ e5) (bf _ e6) (bf _ e7) (bf _ e8) (bf _ e9) (bf _ e10) (bf _ e11) (bf _ e12) (bf _ e13) (bf _ e14) (bf _ e15) (bf _ e16) (bf _ e17) (rflo_none op a b (bf _ e31) (bf _ e32) (bf _ e33) (bf _ e34) (bf _ e35) (bf _ e36) (bf _ e37) (bf _ e38) (bf _ e39) (bf _ e40) (bf _ e41) (bf _ e42))⟩
end Go.Proofs.Ytelgmffmekfndaa
