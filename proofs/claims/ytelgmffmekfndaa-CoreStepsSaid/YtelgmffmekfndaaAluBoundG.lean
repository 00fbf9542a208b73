/- What is reckoned lies in 64 bits. Conditions: as each theorem names them. -/
import Derived.Test.YtelgmffmekfndaaAluAllG
import Derived.Test.YtelgmffmekfndaaAluTakesCG
set_option linter.unusedVariables false
namespace Go.Proofs.Ytelgmffmekfndaa
open Go.ChangeShapes Go.WideShapes Go.ChangeAt Go.RowKit Fl

namespace Bd
def In (v : Int) : Prop := 0 ≤ v ∧ v < 18446744073709551616
theorem wr (x : Int) : In (IntKind.u64.wrap x) := by unfold In; rw [IntKind.wrap_u64]; omega
theorem bt (op : BinOp) (a b : Int) : In (bits op .u64 a b) := by
  have := bits_lo_u64 op a b
  have := bits_hi_u64 op a b
  unfold In; omega
theorem bit (t : Bool) : In (Alu.bit t) := by cases t <;> unfold In Alu.bit <;> simp
theorem zero : In 0 := by unfold In; omega
theorem quo (a : Int) (a0 : 0 ≤ a) (a1 : a < 18446744073709551616) (n : Nat) : In (a / 2 ^ n) := by
  have hp : (0 : Int) < 2 ^ n := Int.pow_pos (by decide)
  have h0 : 0 ≤ a / 2 ^ n := Int.ediv_nonneg a0 (by omega)
  have h1 : a / 2 ^ n ≤ a := Int.ediv_le_self _ a0
  unfold In; omega
theorem num {o : Option Nat} (h : ∀ r, o = some r → r < 2 ^ 64 ∧ r % 2 ^ 63 ≤ 2047 * 2 ^ 52) : In ((numOf o : Nat) : Int) := by
  cases o with
  | none => unfold In; decide
  | some r => have := (h r rfl).1; show In (r : Int); unfold In; omega
theorem ofNat {n : Nat} (h : n < 2 ^ 64) : In (n : Int) := by unfold In; omega
theorem min (x y : Nat) (hx : x < 2 ^ 64) (hy : y < 2 ^ 64) : minW x y < 2 ^ 64 := by
  unfold minW Fl.minN nanW; split <;> (try split) <;> omega
theorem max (x y : Nat) (hx : x < 2 ^ 64) (hy : y < 2 ^ 64) : maxW x y < 2 ^ 64 := by
  unfold maxW Fl.maxN nanW; split <;> (try split) <;> omega
theorem word (s : Bool) (m : Nat) (p : Int) : Fl.word s (rung m p) < 2 ^ 64 := by
  have := rung_le m p
  unfold Fl.word; split <;> omega
theorem cls (a : Nat) : classN a < 2 ^ 64 := by
  unfold classN; split <;> (try split) <;> (try split) <;> omega
theorem nat {a : Int} (a0 : 0 ≤ a) (a1 : a < 18446744073709551616) : a.toNat < 2 ^ 64 := by omega
end Bd

theorem alikeB (op a b : Int) (a0 : 0 ≤ a) (a1 : a < 18446744073709551616) (b0 : 0 ≤ b) (b1 : b < 18446744073709551616) : ∃ (v : Int) (ok : Bool), Bd.In v ∧ (∀ w, Calls Try.prog 50 #[.int .i64 op, .int .u64 a, .int .u64 b] w fun e w' => e = .returned (.tuple #[.int .u64 v, .bool ok]) ∧ Below w.heap.size w w') ∧
  ∀ w, Calls Try.prog 51 #[.int .i64 op, .int .u64 a, .int .u64 b] w fun e w' => e = .returned (.tuple #[.int .u64 v, .bool ok]) ∧ Below w.heap.size w w' := by
  by_cases e4 : op = 4
  · subst e4
    refine ⟨_, _, ?_, still (reck4 a b a0 a1 b0 b1), still (rreck4 a b a0 a1 b0 b1)⟩
    exact Bd.wr _
  by_cases e5 : op = 5
  · subst e5
    refine ⟨_, _, ?_, still (reck5 a b a0 a1 b0 b1), still (rreck5 a b a0 a1 b0 b1)⟩
    exact Bd.wr _
  by_cases e6 : op = 6
  · subst e6
    refine ⟨_, _, ?_, still (reck6 a b a0 a1 b0 b1), still (rreck6 a b a0 a1 b0 b1)⟩
    exact Bd.wr _
  by_cases e7 : op = 7
  · subst e7
    by_cases z : b = 0
    · subst z
      refine ⟨_, _, ?_, still (reck7_zero a a0 a1), still (rreck7_zero a a0 a1)⟩
      exact Bd.zero
    · refine ⟨_, _, ?_, still (reck7 a b a0 a1 (by omega) b1), still (rreck7 a b a0 a1 (by omega) b1)⟩
      exact Bd.wr _
  by_cases e8 : op = 8
  · subst e8
    by_cases z : b = 0
    · subst z
      refine ⟨_, _, ?_, still (reck8_zero a a0 a1), still (rreck8_zero a a0 a1)⟩
      exact Bd.zero
    · refine ⟨_, _, ?_, still (reck8 a b a0 a1 (by omega) b1), still (rreck8 a b a0 a1 (by omega) b1)⟩
      exact Bd.wr _
  by_cases e9 : op = 9
  · subst e9
    refine ⟨_, _, ?_, still (reck9 a b a0 a1 b0 b1), still (rreck9 a b a0 a1 b0 b1)⟩
    exact Bd.bt _ _ _
  by_cases e10 : op = 10
  · subst e10
    refine ⟨_, _, ?_, still (reck10 a b a0 a1 b0 b1), still (rreck10 a b a0 a1 b0 b1)⟩
    exact Bd.bt _ _ _
  by_cases e11 : op = 11
  · subst e11
    refine ⟨_, _, ?_, still (reck11 a b a0 a1 b0 b1), still (rreck11 a b a0 a1 b0 b1)⟩
    exact Bd.bt _ _ _
  by_cases e12 : op = 12
  · subst e12
    refine ⟨_, _, ?_, still (reck12 a b a0 a1 b0 b1), still (rreck12 a b a0 a1 b0 b1)⟩
    exact Bd.wr _
  by_cases e13 : op = 13
  · subst e13
    refine ⟨_, _, ?_, still (reck13 a b a0 a1 b0 b1), still (rreck13 a b a0 a1 b0 b1)⟩
    exact Bd.quo _ a0 a1 _
  by_cases e14 : op = 14
  · subst e14
    refine ⟨_, _, ?_, still (reck14 a b a0 a1 b0 b1), still (rreck14 a b a0 a1 b0 b1)⟩
    exact Bd.wr _
  by_cases e15 : op = 15
  · subst e15
    refine ⟨_, _, ?_, still (reck15 a b a0 a1 b0 b1), still (rreck15 a b a0 a1 b0 b1)⟩
    exact Bd.bit _
  by_cases e16 : op = 16
  · subst e16
    refine ⟨_, _, ?_, still (reck16 a b a0 a1 b0 b1), still (rreck16 a b a0 a1 b0 b1)⟩
    exact Bd.bit _
  by_cases e17 : op = 17
  · subst e17
    refine ⟨_, _, ?_, still (reck17 a b a0 a1 b0 b1), still (rreck17 a b a0 a1 b0 b1)⟩
    exact Bd.bit _
  have bf : ∀ k : Int, op ≠ k → (op == k) = false := fun k h => beq_eq_false_iff_ne.2 h
  by_cases e31 : op = 31
  · subst e31
    refine ⟨_, _, ?_, reck_flo _ a b _ _ (by decide) (by decide) (by decide) (by decide) (by decide) (by decide) (by decide) (by decide) (by decide) (by decide) (by decide) (by decide) (by decide) (by decide) (flo31 a b a0 a1 b0 b1), rreck_flo _ a b _ _ (by decide) (by decide) (by decide) (by decide) (by decide) (by decide) (by decide) (by decide) (by decide) (by decide) (by decide) (by decide) (by decide) (by decide) (rflo31 a b a0 a1 b0 b1)⟩
    exact Bd.num (fun _ h => add_bd h)
  by_cases e32 : op = 32
  · subst e32
    refine ⟨_, _, ?_, reck_flo _ a b _ _ (by decide) (by decide) (by decide) (by decide) (by decide) (by decide) (by decide) (by decide) (by decide) (by decide) (by decide) (by decide) (by decide) (by decide) (flo32 a b a0 a1 b0 b1), rreck_flo _ a b _ _ (by decide) (by decide) (by decide) (by decide) (by decide) (by decide) (by decide) (by decide) (by decide) (by decide) (by decide) (by decide) (by decide) (by decide) (rflo32 a b a0 a1 b0 b1)⟩
    exact Bd.num (fun _ h => sub_bd h)
  by_cases e33 : op = 33
  · subst e33
    refine ⟨_, _, ?_, reck_flo _ a b _ _ (by decide) (by decide) (by decide) (by decide) (by decide) (by decide) (by decide) (by decide) (by decide) (by decide) (by decide) (by decide) (by decide) (by decide) (flo33 a b a0 a1 b0 b1), rreck_flo _ a b _ _ (by decide) (by decide) (by decide) (by decide) (by decide) (by decide) (by decide) (by decide) (by decide) (by decide) (by decide) (by decide) (by decide) (by decide) (rflo33 a b a0 a1 b0 b1)⟩
    exact Bd.num (fun _ h => mul_bd h)
  by_cases e34 : op = 34
  · subst e34
    refine ⟨_, _, ?_, reck_flo _ a b _ _ (by decide) (by decide) (by decide) (by decide) (by decide) (by decide) (by decide) (by decide) (by decide) (by decide) (by decide) (by decide) (by decide) (by decide) (flo34 a b a0 a1 b0 b1), rreck_flo _ a b _ _ (by decide) (by decide) (by decide) (by decide) (by decide) (by decide) (by decide) (by decide) (by decide) (by decide) (by decide) (by decide) (by decide) (by decide) (rflo34 a b a0 a1 b0 b1)⟩
    exact Bd.num (fun _ h => div_bd h)
  by_cases e35 : op = 35
  · subst e35
    refine ⟨_, _, ?_, reck_flo _ a b _ _ (by decide) (by decide) (by decide) (by decide) (by decide) (by decide) (by decide) (by decide) (by decide) (by decide) (by decide) (by decide) (by decide) (by decide) (flo35 a b a0 a1 b0 b1), rreck_flo _ a b _ _ (by decide) (by decide) (by decide) (by decide) (by decide) (by decide) (by decide) (by decide) (by decide) (by decide) (by decide) (by decide) (by decide) (by decide) (rflo35 a b a0 a1 b0 b1)⟩
    exact Bd.ofNat (Bd.min _ _ (Bd.nat a0 a1) (Bd.nat b0 b1))
  by_cases e36 : op = 36
  · subst e36
    refine ⟨_, _, ?_, reck_flo _ a b _ _ (by decide) (by decide) (by decide) (by decide) (by decide) (by decide) (by decide) (by decide) (by decide) (by decide) (by decide) (by decide) (by decide) (by decide) (flo36 a b a0 a1 b0 b1), rreck_flo _ a b _ _ (by decide) (by decide) (by decide) (by decide) (by decide) (by decide) (by decide) (by decide) (by decide) (by decide) (by decide) (by decide) (by decide) (by decide) (rflo36 a b a0 a1 b0 b1)⟩
    exact Bd.ofNat (Bd.max _ _ (Bd.nat a0 a1) (Bd.nat b0 b1))
  by_cases e37 : op = 37
  · subst e37
    refine ⟨_, _, ?_, reck_flo _ a b _ _ (by decide) (by decide) (by decide) (by decide) (by decide) (by decide) (by decide) (by decide) (by decide) (by decide) (by decide) (by decide) (by decide) (by decide) (flo37 a b a0 a1 b0 b1), rreck_flo _ a b _ _ (by decide) (by decide) (by decide) (by decide) (by decide) (by decide) (by decide) (by decide) (by decide) (by decide) (by decide) (by decide) (by decide) (by decide) (rflo37 a b a0 a1 b0 b1)⟩
    exact Bd.bit _
  by_cases e38 : op = 38
  · subst e38
    refine ⟨_, _, ?_, reck_flo _ a b _ _ (by decide) (by decide) (by decide) (by decide) (by decide) (by decide) (by decide) (by decide) (by decide) (by decide) (by decide) (by decide) (by decide) (by decide) (flo38 a b a0 a1 b0 b1), rreck_flo _ a b _ _ (by decide) (by decide) (by decide) (by decide) (by decide) (by decide) (by decide) (by decide) (by decide) (by decide) (by decide) (by decide) (by decide) (by decide) (rflo38 a b a0 a1 b0 b1)⟩
    exact Bd.bit _
  by_cases e39 : op = 39
  · subst e39
    refine ⟨_, _, ?_, reck_flo _ a b _ _ (by decide) (by decide) (by decide) (by decide) (by decide) (by decide) (by decide) (by decide) (by decide) (by decide) (by decide) (by decide) (by decide) (by decide) (flo39 a b a0 a1 b0 b1), rreck_flo _ a b _ _ (by decide) (by decide) (by decide) (by decide) (by decide) (by decide) (by decide) (by decide) (by decide) (by decide) (by decide) (by decide) (by decide) (by decide) (rflo39 a b a0 a1 b0 b1)⟩
    exact Bd.num (fun _ h => sqrt_bd h)
  by_cases e40 : op = 40
  · subst e40
    refine ⟨_, _, ?_, reck_flo _ a b _ _ (by decide) (by decide) (by decide) (by decide) (by decide) (by decide) (by decide) (by decide) (by decide) (by decide) (by decide) (by decide) (by decide) (by decide) (flo40 a b a0 a1 b0 b1), rreck_flo _ a b _ _ (by decide) (by decide) (by decide) (by decide) (by decide) (by decide) (by decide) (by decide) (by decide) (by decide) (by decide) (by decide) (by decide) (by decide) (rflo40 a b a0 a1 b0 b1)⟩
    exact Bd.wr _
  by_cases e41 : op = 41
  · subst e41
    refine ⟨_, _, ?_, reck_flo _ a b _ _ (by decide) (by decide) (by decide) (by decide) (by decide) (by decide) (by decide) (by decide) (by decide) (by decide) (by decide) (by decide) (by decide) (by decide) (flo41 a b a0 a1 b0 b1), rreck_flo _ a b _ _ (by decide) (by decide) (by decide) (by decide) (by decide) (by decide) (by decide) (by decide) (by decide) (by decide) (by decide) (by decide) (by decide) (by decide) (rflo41 a b a0 a1 b0 b1)⟩
    exact Bd.ofNat (Bd.word _ _ _)
  by_cases e42 : op = 42
  · subst e42
    refine ⟨_, _, ?_, reck_flo _ a b _ _ (by decide) (by decide) (by decide) (by decide) (by decide) (by decide) (by decide) (by decide) (by decide) (by decide) (by decide) (by decide) (by decide) (by decide) (flo42 a b a0 a1 b0 b1), rreck_flo _ a b _ _ (by decide) (by decide) (by decide) (by decide) (by decide) (by decide) (by decide) (by decide) (by decide) (by decide) (by decide) (by decide) (by decide) (by decide) (rflo42 a b a0 a1 b0 b1)⟩
    exact Bd.ofNat (Bd.cls _)
  refine ⟨_, _, ?_, reck_flo _ a b _ _ (bf _ e4) (bf _ e5) (bf _ e6) (bf _ e7) (bf _ e8) (bf _ e9) (bf _ e10) (bf _ e11) (bf _ e12) (bf _ e13) (bf _ e14) (bf _ e15) (bf _ e16) (bf _ e17) (flo_none op a b (bf _ e31) (bf _ e32) (bf _ e33) (bf _ e34) (bf _ e35) (bf _ e36) (bf _ e37) (bf _ e38) (bf _ e39) (bf _ e40) (bf _ e41) (bf _ e42)), rreck_flo _ a b _ _ (bf _ e4) (bf _ e5) (bf _ e6) (bf _ e7) (bf _ e8) (bf _ e9) (bf _ e10) (bf _ e11) (bf _ e12) (bf _ e13) (bf _ e14) (bf _ e15) (bf _ e16) (bf _ e17) (rflo_none op a b (bf _ e31) (bf _ e32) (bf _ e33) (bf _ e34) (bf _ e35) (bf _ e36) (bf _ e37) (bf _ e38) (bf _ e39) (bf _ e40) (bf _ e41) (bf _ e42))⟩
  exact Bd.zero
end Go.Proofs.Ytelgmffmekfndaa
