/- The quotient of two words, as the reference reckons it, is the quotient that the standard gives. Plain law, no program. Condition: the words fit 64 bits. -/
import Derived.Test.YtelgmffmekfndaaFltMulLaw
set_option linter.unusedVariables false
namespace Go.Proofs.Ytelgmffmekfndaa.Fl
open Ieee (double)

/-- the quotient of numbers of 53 bits, and one bit for what is left -/
def divm (X Y : Nat) : Nat := if X * 2 ^ 56 % Y = 0 then X * 2 ^ 56 / Y else (X * 2 ^ 56 / Y ||| 1)

theorem quot_of (N Y q r : Nat) (hY : 0 < Y) (h : 2 * N = 2 * (q * Y) + r) (hr : r < 2 * Y) : (if N % Y = 0 then N / Y else (N / Y ||| 1)) = if r = 0 then q else (q ||| 1) := by
  obtain ⟨t, ht⟩ : ∃ t, r = 2 * t := ⟨r / 2, by omega⟩
  have h2 : N = Y * q + t := by rw [Nat.mul_comm Y]; omega
  have d1 : N / Y = q := by rw [h2, Nat.mul_add_div hY, Nat.div_eq_of_lt (by omega)]; rfl
  have d2 : N % Y = t := by rw [h2, Nat.mul_add_mod, Nat.mod_eq_of_lt (by omega)]
  rw [d1, d2]
  by_cases c : t = 0
  · rw [if_pos c, if_pos (by omega)]
  · rw [if_neg c, if_neg (by omega)]

theorem pow57 (X : Nat) : X * 2 ^ 57 = 2 * (X * 2 ^ 56) := by
  have e0 : (2 : Nat) ^ 57 = 2 ^ 56 * 2 := rfl
  rw [e0, ← Nat.mul_assoc, Nat.mul_comm]

theorem divm_of (X Y q r : Nat) (hY : 0 < Y) (h : X * 2 ^ 57 = 2 * (q * Y) + r) (hr : r < 2 * Y) : divm X Y = if r = 0 then q else (q ||| 1) :=
  quot_of _ Y q r hY ((pow57 X).symm.trans h) hr

theorem step_yes (X Y q r i : Nat) (h : X * 2 ^ i = 2 * (q * Y) + r) (hr : Y ≤ r) : X * 2 ^ (i + 1) = 2 * ((q * 2 + 1) * Y) + (r - Y) * 2 := by
  rw [Nat.pow_succ, ← Nat.mul_assoc, h, Nat.add_mul (q * 2) 1 Y, Nat.one_mul, Nat.mul_right_comm q 2 Y, Nat.add_mul]
  generalize q * Y = Z
  omega
theorem step_no (X Y q r i : Nat) (h : X * 2 ^ i = 2 * (q * Y) + r) : X * 2 ^ (i + 1) = 2 * ((q * 2) * Y) + r * 2 := by
  rw [Nat.pow_succ, ← Nat.mul_assoc, h, Nat.mul_right_comm q 2 Y]
  generalize q * Y = Z
  omega
theorem step_lt (q i : Nat) (h : q < 2 ^ i) (hi : i < 57) : q * 2 + 1 < 2 ^ (i + 1) ∧ q * 2 + 1 < 2 ^ 57 := by
  have e : 2 ^ (i + 1) = 2 ^ i * 2 := Nat.pow_succ ..
  have l : 2 ^ (i + 1) ≤ 2 ^ 57 := Nat.pow_le_pow_right (by omega) (by omega)
  omega

theorem div_nan_l (x y : Nat) (hx : x < 2 ^ 64) (k : exf x = 2047) (f : fr x ≠ 0) : numOf (double.div x y) = nanW := by
  unfold Ieee.Format.div
  rw [read_nan x hx k f]; rfl
theorem div_nan_r (x y : Nat) (hy : y < 2 ^ 64) (k : exf y = 2047) (f : fr y ≠ 0) : numOf (double.div x y) = nanW := by
  unfold Ieee.Format.div
  rw [read_nan y hy k f]
  cases double.read x <;> rfl
theorem div_inf_inf (x y : Nat) (hx : x < 2 ^ 64) (hy : y < 2 ^ 64) (k : exf x = 2047) (f : fr x = 0) (k2 : exf y = 2047) (f2 : fr y = 0) : numOf (double.div x y) = nanW := by
  unfold Ieee.Format.div
  rw [read_inf x hx k f, read_inf y hy k2 f2]; rfl
theorem div_inf_fin (x y : Nat) (hx : x < 2 ^ 64) (hy : y < 2 ^ 64) (k : exf x = 2047) (f : fr x = 0) (k2 : exf y ≠ 2047) : numOf (double.div x y) = word (!(sg x == sg y)) (2047 * 2 ^ 52) := by
  unfold Ieee.Format.div
  rw [read_inf x hx k f, read_fin y hy k2]
  show numOf ((some (Ieee.Datum.infinity (sg x ^^ sg y))).map double.write) = _
  rw [Option.map_some, write_inf, xor_eq]; rfl
theorem div_fin_inf (x y : Nat) (hx : x < 2 ^ 64) (hy : y < 2 ^ 64) (k : exf x ≠ 2047) (k2 : exf y = 2047) (f2 : fr y = 0) : numOf (double.div x y) = word (!(sg x == sg y)) 0 := by
  unfold Ieee.Format.div
  rw [read_fin x hx k, read_inf y hy k2 f2]
  show numOf ((some (Ieee.Datum.number (sg x ^^ sg y) 0 0)).map double.write) = _
  rw [Option.map_some, write_number, xor_eq, rung_zero]; rfl

theorem quotient_fin (s t : Bool) (m n : Nat) (i j : Int) : Ieee.Datum.quotient 54 (.number s m i) (.number t n j) =
    if n = 0 then (if m = 0 then none else some (.infinity (s ^^ t))) else
      some (.number (s ^^ t) (2 * (m * 2 ^ (54 + n.log2 - m.log2) / n) + (m * 2 ^ (54 + n.log2 - m.log2) % n != 0).toNat) (i - j - (54 + n.log2 - m.log2 : Nat) - 1)) := by
  unfold Ieee.Datum.quotient
  simp only [Nat.shiftLeft_eq]

theorem div_by_zero (x y : Nat) (hx : x < 2 ^ 64) (hy : y < 2 ^ 64) (k : exf x ≠ 2047) (k2 : exf y ≠ 2047) (zy : mant y = 0) :
    numOf (double.div x y) = if mant x = 0 then nanW else word (!(sg x == sg y)) (2047 * 2 ^ 52) := by
  unfold Ieee.Format.div
  rw [read_fin x hx k, read_fin y hy k2, show double.fractionBits + 2 = 54 by rfl, quotient_fin, if_pos ((mag_zero y k2).2 zy)]
  by_cases h : mag x = 0
  · rw [if_pos h, if_pos ((mag_zero x k).1 h)]; rfl
  · rw [if_neg h, if_neg (fun e => h ((mag_zero x k).2 e)), Option.map_some, write_inf, xor_eq]; rfl

theorem zero_div (x y : Nat) (hx : x < 2 ^ 64) (hy : y < 2 ^ 64) (k : exf x ≠ 2047) (k2 : exf y ≠ 2047) (zx : mant x = 0) (zy : mant y ≠ 0) : numOf (double.div x y) = word (!(sg x == sg y)) 0 := by
  unfold Ieee.Format.div
  rw [read_fin x hx k, read_fin y hy k2, show double.fractionBits + 2 = 54 by rfl, quotient_fin, if_neg (fun e => zy ((mag_zero y k2).1 e)), (mag_zero x k).2 zx]
  rw [Option.map_some, write_number, xor_eq]
  simp only [Nat.zero_mul, Nat.zero_div, Nat.zero_mod]
  rw [show 2 * 0 + ((0 : Nat) != 0).toNat = 0 by rfl, rung_zero]; rfl

/-- twice the quotient, and one bit for what is left -/
def twoq (N Y : Nat) : Nat := 2 * (N / Y) + (N % Y != 0).toNat

theorem twoq_scale (N Y v : Nat) : twoq (N * 2 ^ v) (Y * 2 ^ v) = twoq N Y := by
  unfold twoq
  have hp := Nat.two_pow_pos v
  rw [Nat.mul_div_mul_right _ _ hp, Nat.mul_mod_mul_right]
  congr 2
  have e : (N % Y * 2 ^ v = 0) ↔ N % Y = 0 := by rw [Nat.mul_eq_zero]; omega
  rw [Bool.eq_iff_iff]
  simp only [bne_iff_ne, ne_eq, e]

theorem twoq_stick (N Y : Nat) : stick (twoq N Y) 1 = if N % Y = 0 then N / Y else (N / Y ||| 1) := by
  unfold stick twoq
  by_cases h : N % Y = 0
  · rw [h, if_pos rfl]
    rw [show ((0 : Nat) != 0).toNat = 0 by rfl, if_pos (by omega)]
    omega
  · rw [if_neg h, show (N % Y != 0) = true by simpa using h, show true.toNat = 1 by rfl, if_neg (by omega)]
    congr 1
    omega

theorem twoq_four (N Y : Nat) (hY : 0 < Y) : Sticky 2 (twoq (4 * N) Y) (twoq N Y) := by
  unfold Sticky twoq
  have hdm := Nat.div_add_mod N Y
  have hm := Nat.mod_lt N hY
  generalize hq : N / Y = q at *
  generalize hr : N % Y = r at *
  have e4 : 4 * N = Y * (4 * q) + 4 * r := by rw [← hdm, Nat.mul_left_comm]; omega
  have d1 : 4 * N / Y = 4 * q + 4 * r / Y := by rw [e4, Nat.mul_add_div hY]
  have d2 : 4 * N % Y = 4 * r % Y := by rw [e4, Nat.mul_add_mod]
  rw [d1, d2]
  by_cases c : r = 0
  · subst c
    left
    simp
    omega
  · right
    rw [show (r != 0) = true by simpa using c, show true.toNat = 1 by rfl]
    have h3 : 4 * r / Y < 4 := by rw [Nat.div_lt_iff_lt_mul hY]; omega
    have hb : (4 * r % Y != 0).toNat ≤ 1 := by cases (4 * r % Y != 0) <;> decide
    have hpos : 0 < 2 * (4 * r / Y) + (4 * r % Y != 0).toNat := by
      by_cases c2 : 4 * r < Y
      · rw [Nat.mod_eq_of_lt c2, show (4 * r != 0) = true by simp; omega, show true.toNat = 1 by rfl]; omega
      · have : 1 ≤ 4 * r / Y := by rw [Nat.le_div_iff_mul_le hY]; omega
        omega
    generalize 4 * r / Y = z at *
    generalize (4 * r % Y != 0).toNat = b at *
    omega

theorem div_law (x y : Nat) (hx : x < 2 ^ 64) (hy : y < 2 ^ 64) (k : exf x ≠ 2047) (k2 : exf y ≠ 2047) (zx : mant x ≠ 0) (zy : mant y ≠ 0) :
    numOf (double.div x y) = word (!(sg x == sg y)) (rung (divm (mant x) (mant y)) (expo x - expo y - 56)) := by
  have hx0 := mant_ge x k zx
  have hx1 := mant_lt x
  have hy0 := mant_ge y k2 zy
  have hy1 := mant_lt y
  have mx := mant_mag x k
  have my := mant_mag y k2
  have ex := expo_plc x k
  have ey := expo_plc y k2
  have zmx : mag x ≠ 0 := fun e => zx ((mag_zero x k).1 e)
  have zmy : mag y ≠ 0 := fun e => zy ((mag_zero y k2).1 e)
  have lx : (mant x).log2 = 52 := by rw [Nat.log2_eq_iff zx]; omega
  have ly : (mant y).log2 = 52 := by rw [Nat.log2_eq_iff zy]; omega
  have lmx : (mag x).log2 + upn x = 52 := by rw [← log2_mul_pow _ _ zmx, ← mx]; exact lx
  have lmy : (mag y).log2 + upn y = 52 := by rw [← log2_mul_pow _ _ zmy, ← my]; exact ly
  unfold Ieee.Format.div
  rw [read_fin x hx k, read_fin y hy k2, show double.fractionBits + 2 = 54 by rfl, quotient_fin, if_neg zmy, Option.map_some, write_number, numOf_some, xor_eq]
  congr 1
  generalize hmo : 54 + (mag y).log2 - (mag x).log2 = more
  have hmore : more + upn y = 54 + upn x := by omega
  have eT : 2 * (mag x * 2 ^ more / mag y) + (mag x * 2 ^ more % mag y != 0).toNat = twoq (mant x * 2 ^ 54) (mant y) := by
    show twoq (mag x * 2 ^ more) (mag y) = _
    rw [← twoq_scale (mag x * 2 ^ more) (mag y) (upn y), ← my, Nat.mul_assoc, ← Nat.pow_add, hmore, Nat.add_comm 54, Nat.pow_add, ← Nat.mul_assoc, ← mx]
  rw [eT]
  have ep : plc x - plc y - (more : Int) - 1 = expo x - expo y - 57 + ((2 : Nat) : Int) := by omega
  rw [ep]
  have e56 : mant x * 2 ^ 56 = 4 * (mant x * 2 ^ 54) := by
    have e0 : (2 : Nat) ^ 56 = 2 ^ 54 * 4 := rfl
    rw [e0, ← Nat.mul_assoc, Nat.mul_comm]
  have hq : 2 ^ 53 ≤ mant x * 2 ^ 54 / mant y := by
    rw [Nat.le_div_iff_mul_le (by omega)]
    calc 2 ^ 53 * mant y ≤ 2 ^ 53 * 2 ^ 53 := Nat.mul_le_mul_left _ (by omega)
      _ = 2 ^ 52 * 2 ^ 54 := by decide
      _ ≤ _ := Nat.mul_le_mul_right _ hx0
  have hT : 2 ^ 54 ≤ twoq (mant x * 2 ^ 54) (mant y) := by unfold twoq; omega
  rw [← (twoq_four (mant x * 2 ^ 54) (mant y) (by omega)).rung hT, ← e56]
  have hd : divm (mant x) (mant y) = stick (twoq (mant x * 2 ^ 56) (mant y)) 1 := (twoq_stick _ _).symm
  rw [hd]
  have hq2 : 2 ^ 54 ≤ twoq (mant x * 2 ^ 56) (mant y) / 2 ^ 1 := by
    have : 2 ^ 55 ≤ mant x * 2 ^ 56 / mant y := by
      rw [Nat.le_div_iff_mul_le (by omega)]
      calc 2 ^ 55 * mant y ≤ 2 ^ 55 * 2 ^ 53 := Nat.mul_le_mul_left _ (by omega)
        _ = 2 ^ 52 * 2 ^ 56 := by decide
        _ ≤ _ := Nat.mul_le_mul_right _ hx0
    unfold twoq
    omega
  have := stick_rung (twoq (mant x * 2 ^ 56) (mant y)) 1 (expo x - expo y - 57) hq2
  rw [← this]
  congr 1
  omega
end Go.Proofs.Ytelgmffmekfndaa.Fl
