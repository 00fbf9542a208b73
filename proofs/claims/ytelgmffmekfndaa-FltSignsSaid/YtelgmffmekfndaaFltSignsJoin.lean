/- The law FltSigns returns true at every two words and changes nothing that existed. Condition: the words fit 64 bits. -/
import Derived.Test.YtelgmffmekfndaaFltSignsLaw
set_option linter.unusedVariables false
namespace Go.Proofs.Ytelgmffmekfndaa
open Go.ChangeShapes Go.WideShapes Go.ChangeAt Go.RowKit
open Fl (isN numOf minW maxW nanW)

theorem low_and (a : Int) (a0 : 0 ≤ a) (a1 : a < 18446744073709551616) : bits .and .u64 a 9223372036854775807 = ((a.toNat % 2 ^ 63 : Nat) : Int) := by
  have := mask_u64 a a0 a1 63 (by omega)
  rw [show ((2 ^ 63 - 1 : Nat) : Int) = 9223372036854775807 by rfl] at this
  exact this
theorem low_not (a : Int) (a0 : 0 ≤ a) (a1 : a < 18446744073709551616) : bits .andNot .u64 a 9223372036854775808 = ((a.toNat % 2 ^ 63 : Nat) : Int) := by
  have e := u64_andNot a 9223372036854775808 a0 a1 (by omega) (by omega)
  rw [e, show (18446744073709551615 - (9223372036854775808 : Int).toNat : Nat) = 2 ^ 63 - 1 by rfl, Nat.and_two_pow_sub_one_eq_mod]

/-- what the operations give: a number, or the one word -/
theorem none_at (n : Nat) (hn : n < 2 ^ 64) (w : World) : Calls Try.prog 37 #[.int .u64 (n : Int)] w fun e w' => e = .returned (.bool (!decide (isN n))) ∧ w = w' := by
  have := none_any (n : Int) (by omega) (by omega) w
  rw [Int.toNat_natCast] at this
  exact this
theorem test_at (n : Nat) (h : isN n ∨ n = nanW) : (!decide (isN n)) = false ∨ ((n : Int) != 9221120237041090560) = false := by
  rcases h with h | h
  · left; simpa using h
  · right; rw [h]; decide
theorem lt_num (o : Option Nat) (h : ∀ r, o = some r → r < 2 ^ 64 ∧ r % 2 ^ 63 ≤ 2047 * 2 ^ 52) : numOf o < 2 ^ 64 := by
  cases o with
  | none => decide
  | some r => exact (h r rfl).1
theorem lt_min (x y : Nat) (hx : x < 2 ^ 64) (hy : y < 2 ^ 64) : minW x y < 2 ^ 64 := by
  unfold minW Fl.minN nanW; split <;> (try split) <;> omega
theorem lt_max (x y : Nat) (hx : x < 2 ^ 64) (hy : y < 2 ^ 64) : maxW x y < 2 ^ 64 := by
  unfold maxW Fl.maxN nanW; split <;> (try split) <;> omega
theorem none_nan (w : World) : Calls Try.prog 37 #[.int .u64 9221120237041090560] w fun e w' => e = .returned (.bool true) ∧ w = w' := none_any 9221120237041090560 (by omega) (by omega) w

theorem lawSigns (a b : Int) (a0 : 0 ≤ a) (a1 : a < 18446744073709551616) (b0 : 0 ≤ b) (b1 : b < 18446744073709551616) (w : World) :
    Calls Try.prog 10 #[.int .u64 a, .int .u64 b] w fun e w' => e = .returned (.bool true) ∧ Below w.heap.size w w' := by
  have ha : a.toNat < 2 ^ 64 := by omega
  have hb : b.toNat < 2 ^ 64 := by omega
  obtain ⟨X, hX, x0, x1, hx⟩ := xor_top a a0 a1
  obtain ⟨Z, hZ, z0, z1, hz⟩ := xor_top b b0 b1
  obtain ⟨A, hA, y0, y1, hy⟩ := xor_top X x0 x1
  have eA : A = a := by
    have : A.toNat = a.toNat := by rw [hy, hx, Nat.xor_assoc, Nat.xor_self, Nat.xor_zero]
    omega
  rw [eA] at hA
  have hXY : bits .andNot .u64 X 9223372036854775808 = ((a.toNat % 2 ^ 63 : Nat) : Int) := by
    rw [low_not X x0 x1, hx, Nat.xor_mod_two_pow]
    simp
  have k1 := add_any a b a0 a1 b0 b1
  have k2 := sub_any a b a0 a1 b0 b1
  have k3 := mul_any a b a0 a1 b0 b1
  have k4 := div_any a b a0 a1 b0 b1
  have k5 := min_any a b a0 a1 b0 b1
  have k6 := max_any a b a0 a1 b0 b1
  have kz := add_any a Z a0 a1 z0 z1
  rw [hz, ← Fl.sub_add _ _ hb] at kz
  by_cases n : isN a.toNat ∧ isN b.toNat
  · have l1 : ∀ r, Ieee.double.add a.toNat b.toNat = some r → r < 2 ^ 64 ∧ r % 2 ^ 63 ≤ 2047 * 2 ^ 52 := fun r h => Fl.add_bd h
    have l2 : ∀ r, Ieee.double.sub a.toNat b.toNat = some r → r < 2 ^ 64 ∧ r % 2 ^ 63 ≤ 2047 * 2 ^ 52 := fun r h => Fl.sub_bd h
    have l3 : ∀ r, Ieee.double.mul a.toNat b.toNat = some r → r < 2 ^ 64 ∧ r % 2 ^ 63 ≤ 2047 * 2 ^ 52 := fun r h => Fl.mul_bd h
    have l4 : ∀ r, Ieee.double.div a.toNat b.toNat = some r → r < 2 ^ 64 ∧ r % 2 ^ 63 ≤ 2047 * 2 ^ 52 := fun r h => Fl.div_bd h
    exact lawSigns_n a b _ _ _ _ _ _ _ _ _ _ _ _ a0 a1 b0 b1 (by simpa using n.1) (by simpa using n.2)
      k1 (none_at _ (lt_num _ l1)) (test_at _ (Fl.num_ok _ l1)) k2 (none_at _ (lt_num _ l2)) (test_at _ (Fl.num_ok _ l2)) k3 (none_at _ (lt_num _ l3)) (test_at _ (Fl.num_ok _ l3)) k4 (none_at _ (lt_num _ l4)) (test_at _ (Fl.num_ok _ l4))
      k5 (none_at _ (lt_min _ _ ha hb)) (test_at _ (Fl.min_ok _ _)) k6 (none_at _ (lt_max _ _ ha hb)) (test_at _ (Fl.max_ok _ _)) X _ Z hX (low_not a a0 a1) (low_and a a0 a1) hA hXY hZ kz w
  · have m : ¬ isN a.toNat ∨ ¬ isN b.toNat := Decidable.not_and_iff_not_or_not.1 n
    rw [Fl.bad_add _ _ ha hb m] at k1
    rw [Fl.bad_sub _ _ ha hb m] at k2 kz
    rw [Fl.bad_mul _ _ ha hb m] at k3
    rw [Fl.bad_div _ _ ha hb m] at k4
    have e5 : minW a.toNat b.toNat = nanW := by unfold minW; rw [if_neg n]
    have e6 : maxW a.toNat b.toNat = nanW := by unfold maxW; rw [if_neg n]
    rw [e5] at k5
    rw [e6] at k6
    by_cases na : isN a.toNat
    · have nb : ¬ isN b.toNat := fun h => n ⟨na, h⟩
      exact lawSigns_q a b _ _ _ _ _ _ a0 a1 b0 b1 (by simpa using na) (by simpa using nb) k1 none_nan (by decide) k2 none_nan (by decide) k3 none_nan (by decide) k4 none_nan (by decide) k5 none_nan (by decide) k6 none_nan (by decide) X _ Z hX (low_not a a0 a1) (low_and a a0 a1) hA hXY hZ kz w
    · exact lawSigns_p a b _ _ _ _ _ _ a0 a1 b0 b1 (by simpa using na) k1 none_nan (by decide) k2 none_nan (by decide) k3 none_nan (by decide) k4 none_nan (by decide) k5 none_nan (by decide) k6 none_nan (by decide) X _ Z hX (low_not a a0 a1) (low_and a a0 a1) hA hXY hZ kz w
end Go.Proofs.Ytelgmffmekfndaa
