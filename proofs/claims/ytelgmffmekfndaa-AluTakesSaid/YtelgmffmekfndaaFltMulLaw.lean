/- The product of two words, as the reference reckons it, is the product that the standard gives. Plain law, no program. Condition: the words fit 64 bits. -/
import Derived.Test.YtelgmffmekfndaaFltSumLaw
set_option linter.unusedVariables false
namespace Go.Proofs.Ytelgmffmekfndaa.Fl
open Ieee (double)

theorem product_comm (a b : Ieee.Datum) : a.product b = b.product a := by
  cases a with
  | nan s f => cases b <;> rfl
  | infinity s =>
    cases b with
    | nan t g => rfl
    | infinity t => cases s <;> cases t <;> rfl
    | number t n j => rfl
  | number s m i =>
    cases b with
    | nan t g => rfl
    | infinity t => rfl
    | number t n j =>
      unfold Ieee.Datum.product
      simp only
      rw [Bool.xor_comm, Nat.mul_comm, Int.add_comm]

theorem mul_comm (x y : Nat) : double.mul x y = double.mul y x := by
  unfold Ieee.Format.mul
  rw [product_comm]

theorem xor_eq (s t : Bool) : (s ^^ t) = !(s == t) := by cases s <;> cases t <;> rfl

theorem mul_nan_l (x y : Nat) (hx : x < 2 ^ 64) (k : exf x = 2047) (f : fr x ≠ 0) : numOf (double.mul x y) = nanW := by
  unfold Ieee.Format.mul
  rw [read_nan x hx k f]; rfl
theorem mul_nan_r (x y : Nat) (hy : y < 2 ^ 64) (k : exf y = 2047) (f : fr y ≠ 0) : numOf (double.mul x y) = nanW := by
  rw [mul_comm]; exact mul_nan_l y x hy k f
theorem mul_inf_inf (x y : Nat) (hx : x < 2 ^ 64) (hy : y < 2 ^ 64) (k : exf x = 2047) (f : fr x = 0) (k2 : exf y = 2047) (f2 : fr y = 0) : numOf (double.mul x y) = word (!(sg x == sg y)) (2047 * 2 ^ 52) := by
  unfold Ieee.Format.mul
  rw [read_inf x hx k f, read_inf y hy k2 f2]
  show numOf ((some (Ieee.Datum.infinity (sg x ^^ sg y))).map double.write) = _
  rw [Option.map_some, write_inf, xor_eq]; rfl
theorem mul_inf_fin (x y : Nat) (hx : x < 2 ^ 64) (hy : y < 2 ^ 64) (k : exf x = 2047) (f : fr x = 0) (k2 : exf y ≠ 2047) :
    numOf (double.mul x y) = if mant y = 0 then nanW else word (!(sg x == sg y)) (2047 * 2 ^ 52) := by
  unfold Ieee.Format.mul
  rw [read_inf x hx k f, read_fin y hy k2]
  show numOf ((if mag y = 0 then none else some (Ieee.Datum.infinity (sg x ^^ sg y))).map double.write) = _
  by_cases h : mag y = 0
  · rw [if_pos h, if_pos ((mag_zero y k2).1 h)]; rfl
  · rw [if_neg h, if_neg (fun e => h ((mag_zero y k2).2 e)), Option.map_some, write_inf, xor_eq]; rfl

theorem mul_fin_eq (x y : Nat) (hx : x < 2 ^ 64) (hy : y < 2 ^ 64) (kx : exf x ≠ 2047) (ky : exf y ≠ 2047) :
    numOf (double.mul x y) = word (!(sg x == sg y)) (rung (mant x * mant y) (expo x + expo y)) := by
  unfold Ieee.Format.mul
  rw [read_fin x hx kx, read_fin y hy ky]
  show numOf ((some (Ieee.Datum.number (sg x ^^ sg y) (mag x * mag y) (plc x + plc y))).map double.write) = _
  rw [Option.map_some, write_number, numOf_some, xor_eq, mant_mag x kx, mant_mag y ky, expo_plc x kx, expo_plc y ky]
  congr 1
  rw [show mag x * 2 ^ upn x * (mag y * 2 ^ upn y) = mag x * mag y * 2 ^ (upn x + upn y) by rw [Nat.pow_add, Nat.mul_mul_mul_comm]]
  rw [show plc x - (upn x : Int) + (plc y - (upn y : Int)) = plc x + plc y - ((upn x + upn y : Nat) : Int) by omega, rung_mul]

/-- a great number's highest bits, one bit for the rest -/
def stick (n k : Nat) : Nat := if n % 2 ^ k = 0 then n / 2 ^ k else (n / 2 ^ k ||| 1)

theorem stick_is (n k : Nat) : Sticky k n (stick n k) := by
  unfold stick
  by_cases h : n % 2 ^ k = 0
  · rw [if_pos h]; exact .inl (exact_near n k h)
  · rw [if_neg h]; exact sticky_near n k h
theorem stick_ge (n k : Nat) : n / 2 ^ k ≤ stick n k := by
  unfold stick
  split
  · exact Nat.le_refl _
  · rw [or_one]; split <;> omega
theorem stick_rung (n k : Nat) (p : Int) (h : 2 ^ 54 ≤ n / 2 ^ k) : rung (stick n k) (p + k) = rung n p := ((stick_is n k).rung (Nat.le_trans h (stick_ge n k))).symm

/-- the four products of halves -/
theorem halves (X Y : Nat) : X * Y = X / 67108864 * (Y / 67108864) * 4503599627370496 + (X / 67108864 * (Y % 67108864) + X % 67108864 * (Y / 67108864)) * 67108864 + X % 67108864 * (Y % 67108864) := by
  have ex := Nat.div_add_mod X 67108864
  have ey := Nat.div_add_mod Y 67108864
  generalize X / 67108864 = a1 at *
  generalize X % 67108864 = a0 at *
  generalize Y / 67108864 = b1 at *
  generalize Y % 67108864 = b0 at *
  subst ex ey
  rw [Nat.add_mul, Nat.mul_add, Nat.mul_add]
  have e1 : 67108864 * a1 * (67108864 * b1) = a1 * b1 * 4503599627370496 := by
    rw [Nat.mul_mul_mul_comm, Nat.mul_comm]
  have e2 : 67108864 * a1 * b0 = a1 * b0 * 67108864 := by rw [Nat.mul_assoc, Nat.mul_comm]
  have e3 : a0 * (67108864 * b1) = a0 * b1 * 67108864 := by rw [Nat.mul_left_comm, Nat.mul_comm]
  rw [e1, e2, e3, Nat.add_mul]
  omega

theorem mul_law (x y : Nat) (hx : x < 2 ^ 64) (hy : y < 2 ^ 64) (kx : exf x ≠ 2047) (ky : exf y ≠ 2047) (zx : mant x ≠ 0) (zy : mant y ≠ 0) :
    numOf (double.mul x y) = word (!(sg x == sg y)) (rung (stick (mant x * mant y) 44) (expo x + expo y + 44)) := by
  rw [mul_fin_eq x y hx hy kx ky]
  congr 1
  have h1 := mant_ge x kx zx
  have h2 := mant_ge y ky zy
  have h3 : 2 ^ 52 * 2 ^ 52 ≤ mant x * mant y := Nat.mul_le_mul h1 h2
  have := stick_rung (mant x * mant y) 44 (expo x + expo y) (by
    rw [Nat.le_div_iff_mul_le (by decide)]
    exact Nat.le_trans (by decide) h3)
  exact this.symm
end Go.Proofs.Ytelgmffmekfndaa.Fl
