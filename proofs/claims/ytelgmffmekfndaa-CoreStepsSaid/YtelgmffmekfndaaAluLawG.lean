/- What alu reckons, in plain whole numbers. Plain law, no program. Conditions: the words fit 64 bits. -/
import Derived.Test.YtelgmffmekfndaaFltLawsG
import Derived.Test.YtelgmffmekfndaaFltOfG
set_option linter.unusedVariables false
namespace Go.Proofs.Ytelgmffmekfndaa.Alu
open Go Go.RowKit
/-- 1 or 0 -/
def bit (t : Bool) : Int := if t then 1 else 0
theorem low6 (b : Int) (b0 : 0 ≤ b) (b1 : b < 18446744073709551616) : bits .and .u64 b 63 = b % 64 := by
  have := mask_u64 b b0 b1 6 (by omega)
  rw [show ((2 ^ 6 - 1 : Nat) : Int) = 63 by rfl] at this
  rw [this]
  omega
theorem xor_half (y : Nat) (hy : y < 2 ^ 64) : y ^^^ 2 ^ 63 = if 2 ^ 63 ≤ y then y - 2 ^ 63 else y + 2 ^ 63 := by
  by_cases c : 2 ^ 63 ≤ y
  · rw [if_pos c]
    obtain ⟨z, rfl⟩ : ∃ z, y = 2 ^ 63 + z := ⟨y - 2 ^ 63, by omega⟩
    have hz : z < 2 ^ 63 := by omega
    rw [Nat.add_sub_cancel_left]
    have e : 2 ^ 63 + z = 2 ^ 63 ^^^ z := by
      have := Nat.two_pow_add_eq_or_of_lt hz 1
      simp only [Nat.mul_one] at this
      rw [this]
      apply Nat.eq_of_testBit_eq
      intro i
      rw [Nat.testBit_or, Nat.testBit_xor, Nat.testBit_two_pow]
      by_cases hi : 63 = i
      · subst hi
        rw [Nat.testBit_lt_two_pow hz]; simp
      · simp [hi]
    rw [e, Nat.xor_comm (2 ^ 63) z, Nat.xor_assoc, Nat.xor_self, Nat.xor_zero]
  · rw [if_neg c]
    have hz : y < 2 ^ 63 := by omega
    rw [Nat.add_comm]
    have := Nat.two_pow_add_eq_or_of_lt hz 1
    simp only [Nat.mul_one] at this
    rw [this]
    apply Nat.eq_of_testBit_eq
    intro i
    rw [Nat.testBit_or, Nat.testBit_xor, Nat.testBit_two_pow]
    by_cases hi : 63 = i
    · subst hi
      rw [Nat.testBit_lt_two_pow hz]; simp
    · simp [hi]
theorem top_xor (a : Int) (a0 : 0 ≤ a) (a1 : a < 18446744073709551616) : bits .xor .u64 a 9223372036854775808 = wrap64 a + 9223372036854775808 := by
  rw [u64_xor a _ a0 a1 (by omega) (by omega)]
  have h : a.toNat ^^^ (9223372036854775808 : Int).toNat = if 2 ^ 63 ≤ a.toNat then a.toNat - 2 ^ 63 else a.toNat + 2 ^ 63 := xor_half a.toNat (by omega)
  rw [h]
  unfold wrap64
  split <;> omega
theorem not_u64 (x : Int) (x0 : 0 ≤ x) (x1 : x < 18446744073709551616) : bits .xor .u64 IntKind.u64.max x = 18446744073709551615 - x := by
  have e : IntKind.u64.max = 18446744073709551615 := by rfl
  rw [e, u64_xor _ x (by omega) (by omega) x0 x1]
  have h : (18446744073709551615 : Int).toNat ^^^ x.toNat = 2 ^ 64 - 1 - x.toNat := by
    rw [show (18446744073709551615 : Int).toNat = 2 ^ 64 - 1 by rfl]
    apply Nat.eq_of_testBit_eq
    intro i
    rw [Nat.testBit_xor, Nat.testBit_two_pow_sub_one, Nat.sub_sub, Nat.add_comm 1, Nat.testBit_two_pow_sub_succ (by omega)]
    by_cases hi : i < 64
    · simp [hi]
    · simp only [hi, decide_false, Bool.false_and, Bool.false_xor]
      exact Nat.testBit_lt_two_pow (Nat.lt_of_lt_of_le (show x.toNat < 2 ^ 64 by omega) (Nat.pow_le_pow_right (by omega) (by omega)))
  rw [h]
  omega

theorem wrap_pos {a : Int} (a0 : 0 ≤ a) (a1 : a < 9223372036854775808) : wrap64 a = a := by unfold wrap64; omega
theorem wrap_neg {a : Int} (a0 : 9223372036854775808 ≤ a) (a1 : a < 18446744073709551616) : wrap64 a = -(18446744073709551616 - a) := by unfold wrap64; omega
theorem u64_id {a : Int} (a0 : 0 ≤ a) (a1 : a < 18446744073709551616) : IntKind.u64.wrap a = a := by rw [IntKind.wrap_u64]; omega

theorem div_bd {X Y : Int} (x0 : 0 ≤ X) (x1 : X ≤ 9223372036854775808) (y0 : 0 < Y) : 0 ≤ X / Y ∧ X / Y ≤ 9223372036854775808 :=
  ⟨Int.ediv_nonneg x0 (by omega), Int.le_trans (Int.ediv_le_self Y x0) x1⟩

theorem quo_same {X Y : Int} (x0 : 0 ≤ X) (x1 : X ≤ 9223372036854775808) (y0 : 0 < Y) : IntKind.u64.wrap (X.tdiv Y) = X / Y ∧ IntKind.u64.wrap ((-X).tdiv (-Y)) = X / Y ∧ IntKind.u64.wrap ((-X).tdiv Y) = IntKind.u64.wrap (-(X / Y)) ∧ IntKind.u64.wrap (X.tdiv (-Y)) = IntKind.u64.wrap (-(X / Y)) := by
  have h := div_bd x0 x1 y0
  rw [Int.neg_tdiv, Int.tdiv_neg, Int.neg_tdiv, Int.tdiv_eq_ediv_of_nonneg x0]
  rw [Int.neg_neg]
  exact ⟨u64_id (by omega) (by omega), u64_id (by omega) (by omega), rfl, rfl⟩

theorem rem_of {X Y : Int} (x0 : 0 ≤ X) (x1 : X ≤ 9223372036854775808) (y0 : 0 < Y) : IntKind.u64.wrap (X - IntKind.u64.wrap (X / Y * Y)) = X % Y := by
  have h1 := Int.emod_add_mul_ediv X Y
  have h2 := Int.emod_nonneg X (show Y ≠ 0 by omega)
  have h3 := Int.emod_lt_of_pos X y0
  rw [Int.mul_comm] at h1
  have h4 : 0 ≤ X / Y * Y := Int.mul_nonneg (div_bd x0 x1 y0).1 (by omega)
  rw [u64_id (a := X / Y * Y) h4 (by omega), u64_id (by omega) (by omega)]
  omega

theorem rem_same {X Y : Int} (x0 : 0 ≤ X) (x1 : X ≤ 9223372036854775808) (y0 : 0 < Y) : IntKind.u64.wrap (X.tmod Y) = X % Y ∧ IntKind.u64.wrap (X.tmod (-Y)) = X % Y ∧ IntKind.u64.wrap ((-X).tmod Y) = IntKind.u64.wrap (-(X % Y)) ∧ IntKind.u64.wrap ((-X).tmod (-Y)) = IntKind.u64.wrap (-(X % Y)) := by
  have h2 := Int.emod_nonneg X (show Y ≠ 0 by omega)
  have h3 : X % Y ≤ X := by
    have h1 := Int.emod_add_mul_ediv X Y
    have h4 : 0 ≤ Y * (X / Y) := Int.mul_nonneg (by omega) (div_bd x0 x1 y0).1
    omega
  rw [Int.tmod_neg, Int.tmod_neg, Int.neg_tmod, Int.tmod_eq_emod_of_nonneg x0]
  exact ⟨u64_id (by omega) (by omega), u64_id (by omega) (by omega), rfl, rfl⟩

/-- the shift that keeps the sign -/
theorem sar_neg {a : Int} (a0 : 9223372036854775808 ≤ a) (a1 : a < 18446744073709551616) (n : Nat) :
    bits .xor .u64 IntKind.u64.max (bits .xor .u64 IntKind.u64.max a / 2 ^ n) = IntKind.u64.wrap (wrap64 a / 2 ^ n) := by
  rw [not_u64 a (by omega) a1]
  have hp : (0 : Int) < 2 ^ n := Int.pow_pos (by omega)
  have h1 : 0 ≤ (18446744073709551615 - a) / 2 ^ n := Int.ediv_nonneg (by omega) (by omega)
  have h2 : (18446744073709551615 - a) / 2 ^ n ≤ 18446744073709551615 - a := Int.ediv_le_self _ (by omega)
  rw [not_u64 _ h1 (by omega), wrap_neg a0 a1]
  obtain ⟨c, hc⟩ : ∃ c : Nat, (c : Int) = 18446744073709551615 - a := ⟨(18446744073709551615 - a).toNat, by omega⟩
  rw [← hc] at h1 h2 ⊢
  have e : -(18446744073709551616 - a) = Int.negSucc c := by omega
  rw [e, Int.negSucc_ediv c hp, IntKind.wrap_u64]
  have e2 : Int.ediv c (2 ^ n) = (c : Int) / 2 ^ n := rfl
  rw [e2]
  omega
theorem sar_pos {a : Int} (a0 : 0 ≤ a) (a1 : a < 9223372036854775808) (n : Nat) : a / 2 ^ n = IntKind.u64.wrap (wrap64 a / 2 ^ n) := by
  have h1 : 0 ≤ a / 2 ^ n := Int.ediv_nonneg a0 (Int.le_of_lt (Int.pow_pos (by omega)))
  have h2 : a / 2 ^ n ≤ a := Int.ediv_le_self _ a0
  rw [wrap_pos a0 a1, u64_id h1 (by omega)]
end Go.Proofs.Ytelgmffmekfndaa.Alu
