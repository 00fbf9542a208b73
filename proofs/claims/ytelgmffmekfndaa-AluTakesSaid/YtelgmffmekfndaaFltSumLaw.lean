/- The sum of two words, as the reference reckons it, is the sum that the standard gives. Plain law, no program. Condition: the words fit 64 bits. -/
import Derived.Test.YtelgmffmekfndaaFltRead
set_option linter.unusedVariables false
namespace Go.Proofs.Ytelgmffmekfndaa.Fl
open Ieee (double)

theorem Sticky.sum {d A B b : Nat} (h : Sticky d B b) (hA : A % 2 = 0) : Sticky d (A * 2 ^ d + B) (A + b) := by
  unfold Sticky at *
  rcases h with h | ⟨h1, h2, h3⟩
  · left; rw [h, Nat.add_mul]
  · right
    refine ⟨by omega, ?_, ?_⟩
    · rw [show A + b - 1 = A + (b - 1) by omega, Nat.add_mul]; omega
    · rw [show A + b + 1 = A + (b + 1) by omega, Nat.add_mul]; omega

theorem Sticky.diff {d A B b : Nat} (h : Sticky d B b) (hA : A % 2 = 0) (hb : b ≤ A) : Sticky d (A * 2 ^ d - B) (A - b) := by
  unfold Sticky at *
  rcases h with h | ⟨h1, h2, h3⟩
  · left; rw [h, Nat.sub_mul]
  · right
    have e1 : (b + 1) * 2 ^ d ≤ A * 2 ^ d := Nat.mul_le_mul_right _ (by omega)
    refine ⟨by omega, ?_, ?_⟩
    · have : (A - b - 1) * 2 ^ d = A * 2 ^ d - (b + 1) * 2 ^ d := by rw [show A - b - 1 = A - (b + 1) by omega, Nat.sub_mul]
      omega
    · have : (A - b + 1) * 2 ^ d = A * 2 ^ d - (b - 1) * 2 ^ d := by rw [show A - b + 1 = A - (b - 1) by omega, Nat.sub_mul]
      have e2 : (b - 1) * 2 ^ d ≤ A * 2 ^ d := Nat.mul_le_mul_right _ (by omega)
      omega

/-- the number of 53 bits, at a lower place -/
theorem mag_at (b : Nat) (h : exf b ≠ 2047) (p : Int) (hp : p ≤ expo b) : mag b * 2 ^ (plc b - p).toNat = mant b * 2 ^ (expo b - p).toNat := by
  have e := expo_plc b h
  rw [mant_mag b h, Nat.mul_assoc, ← Nat.pow_add]
  congr 2
  omega

theorem numOf_some (r : Nat) : numOf (some r) = r := rfl

theorem add_fin_eq (x y : Nat) (hx : x < 2 ^ 64) (hy : y < 2 ^ 64) (kx : exf x ≠ 2047) (ky : exf y ≠ 2047) (p : Int) (px : p ≤ expo x) (py : p ≤ expo y) :
    numOf (double.add x y) = (let T := Ieee.signed (sg x) (mant x) (expo x - p).toNat + Ieee.signed (sg y) (mant y) (expo y - p).toNat; if T = 0 then word (sg x && sg y) 0 else word (decide (T < 0)) (rung T.natAbs p)) := by
  unfold Ieee.Format.add
  rw [read_eq x hx, read_eq y hy, if_neg kx, if_neg ky]
  have ex := expo_plc x kx
  have ey := expo_plc y ky
  rw [sum_write _ _ _ _ _ _ p (by omega) (by omega), numOf_some]
  simp only [signed_eq, mag_at x kx p px, mag_at y ky p py]

theorem sum_comm (a b : Ieee.Datum) : a.sum b = b.sum a := by
  cases a with
  | nan s f => cases b <;> rfl
  | infinity s =>
    cases b with
    | nan t g => rfl
    | infinity t =>
      cases s <;> cases t <;> rfl
    | number t n j => rfl
  | number s m i =>
    cases b with
    | nan t g => rfl
    | infinity t => rfl
    | number t n j =>
      unfold Ieee.Datum.sum
      simp only
      rw [Int.min_comm i j, Bool.and_comm s t, Int.add_comm]

theorem add_comm (x y : Nat) : double.add x y = double.add y x := by
  unfold Ieee.Format.add
  rw [sum_comm]

theorem add_signs (s t : Bool) (A B : Nat) (p : Int) (R1 R2 : Nat) (hA0 : 0 < A) (hB0 : 0 < B) (hlt : s = t ∨ B < A) (rs : rung (A + B) p = R1) (rd : rung (A - B) p = R2) :
    (if (if s then -((A : Nat) : Int) else ((A : Nat) : Int)) + (if t then -((B : Nat) : Int) else ((B : Nat) : Int)) = 0 then word (s && t) 0
      else word (decide ((if s then -((A : Nat) : Int) else ((A : Nat) : Int)) + (if t then -((B : Nat) : Int) else ((B : Nat) : Int)) < 0)) (rung ((if s then -((A : Nat) : Int) else ((A : Nat) : Int)) + (if t then -((B : Nat) : Int) else ((B : Nat) : Int))).natAbs p))
      = if s = t then word s R1 else word s R2 := by
  subst rs rd
  cases s <;> cases t <;> simp only [Bool.false_eq_true, Bool.true_eq_false, if_false, if_true]
  · rw [if_neg (by omega), show decide ((A : Int) + (B : Int) < 0) = false by simp; omega]
    congr 2
  · have hlt' : B < A := by rcases hlt with h | h; cases h; exact h
    rw [if_neg (by omega), show decide ((A : Int) + -(B : Int) < 0) = false by simp; omega]
    congr 2
    omega
  · have hlt' : B < A := by rcases hlt with h | h; cases h; exact h
    rw [if_neg (by omega), show decide (-(A : Int) + (B : Int) < 0) = true by simp; omega]
    congr 2
    omega
  · rw [if_neg (by omega), show decide (-(A : Int) + -(B : Int) < 0) = true by simp; omega]
    congr 2
    omega

/-- two finite numbers, neither of them nought: the second one brought to the first one's place -/
theorem add_gen (x y b d : Nat) (hx : x < 2 ^ 64) (hy : y < 2 ^ 64) (kx : exf x ≠ 2047) (ky : exf y ≠ 2047) (zx : mant x ≠ 0) (zy : mant y ≠ 0) (hd : expo x = expo y + d)
    (hS : Sticky d (mant y * 512) b) (hb : b ≤ mant x * 512) (h10 : mant y * 512 = b * 2 ^ d ∨ 10 ≤ d) (hlt : sg x = sg y ∨ mant y * 512 < mant x * 512 * 2 ^ d) (h54 : 10 ≤ d → b + 2 ^ 54 ≤ mant x * 512) :
    numOf (double.add x y) = if sg x = sg y then word (sg x) (rung (mant x * 512 + b) (expo x - 9)) else word (sg x) (rung (mant x * 512 - b) (expo x - 9)) := by
  rw [add_fin_eq x y hx hy kx ky (expo y - 9) (by omega) (by omega)]
  have e1 : (expo x - (expo y - 9)).toNat = 9 + d := by omega
  have e2 : (expo y - (expo y - 9)).toNat = 9 := by omega
  rw [e1, e2]
  simp only [signed_eq]
  have e3 : mant x * 2 ^ (9 + d) = mant x * 512 * 2 ^ d := by rw [Nat.pow_add, ← Nat.mul_assoc]
  have e4 : mant y * 2 ^ 9 = mant y * 512 := rfl
  rw [e3, e4]
  have hpl : expo y - 9 + d = expo x - 9 := by omega
  have hp := Nat.two_pow_pos d
  have hA0 : 0 < mant x * 512 * 2 ^ d := Nat.mul_pos (by omega) hp
  have hA2 : mant x * 512 % 2 = 0 := by omega
  have rs : rung (mant x * 512 * 2 ^ d + mant y * 512) (expo y - 9) = rung (mant x * 512 + b) (expo x - 9) := by
    have hs := hS.sum hA2
    rcases h10 with h10 | h10
    · rw [h10, ← Nat.add_mul, ← hpl]
      have := rung_mul (mant x * 512 + b) (expo y - 9 + d) d
      rw [show expo y - 9 + (d : Int) - d = expo y - 9 by omega] at this
      exact this
    · rw [hs.rung (by have := h54 h10; omega), hpl]
  have rd : rung (mant x * 512 * 2 ^ d - mant y * 512) (expo y - 9) = rung (mant x * 512 - b) (expo x - 9) := by
    have hs := hS.diff hA2 hb
    rcases h10 with h10 | h10
    · rw [h10, ← Nat.sub_mul, ← hpl]
      have := rung_mul (mant x * 512 - b) (expo y - 9 + d) d
      rw [show expo y - 9 + (d : Int) - d = expo y - 9 by omega] at this
      exact this
    · rw [hs.rung (by have := h54 h10; omega), hpl]
  exact add_signs (sg x) (sg y) _ _ _ _ _ hA0 (by omega) hlt rs rd

theorem add_opp (x y : Nat) (hx : x < 2 ^ 64) (hy : y < 2 ^ 64) (kx : exf x ≠ 2047) (ky : exf y ≠ 2047) (he : expo x = expo y) (hm : mant x = mant y) (hs : sg x ≠ sg y) : numOf (double.add x y) = 0 := by
  rw [add_fin_eq x y hx hy kx ky (expo y) (by omega) (by omega), he, hm]
  simp only [Int.sub_self, Int.toNat_zero, signed_eq]
  cases hsx : sg x <;> cases hsy : sg y <;> simp_all
  · rw [if_pos (by omega)]; rfl
  · rw [if_pos (by omega)]; rfl

theorem add_zero_both (x y : Nat) (hx : x < 2 ^ 64) (hy : y < 2 ^ 64) (kx : exf x ≠ 2047) (ky : exf y ≠ 2047) (zx : mant x = 0) (zy : mant y = 0) : numOf (double.add x y) = word (sg x && sg y) 0 := by
  rw [add_fin_eq x y hx hy kx ky (min (expo x) (expo y)) (by omega) (by omega), zx, zy]
  simp [signed_eq]

theorem add_zero_left (x y : Nat) (hx : x < 2 ^ 64) (hy : y < 2 ^ 64) (kx : exf x ≠ 2047) (ky : exf y ≠ 2047) (zx : mant x = 0) (zy : mant y ≠ 0) : numOf (double.add x y) = y := by
  unfold Ieee.Format.add
  rw [read_eq x hx, read_eq y hy, if_neg kx, if_neg ky]
  have hm0 : mag x = 0 := (mag_zero x kx).2 zx
  have hm1 : mag y ≠ 0 := fun e => zy ((mag_zero y ky).1 e)
  rw [hm0, sum_write _ _ _ _ _ _ (min (plc x) (plc y)) (by omega) (by omega), numOf_some]
  have hp : ∃ k : Nat, plc y - k = min (plc x) (plc y) := ⟨(plc y - min (plc x) (plc y)).toNat, by omega⟩
  obtain ⟨k, hk⟩ := hp
  have hk2 : (plc y - min (plc x) (plc y)).toNat = k := by omega
  simp only [signed_eq, hk2, Nat.zero_mul]
  have hpk := Nat.two_pow_pos k
  have hne : 0 < mag y * 2 ^ k := Nat.mul_pos (by omega) hpk
  rw [← hk]
  have hr := rung_mul (mag y) (plc y) k
  have hself := rung_self y hy ky
  have hw := word_self y hy
  generalize mag y * 2 ^ k = A at *
  cases hsy : sg y
  · have e1 : ((if sg x = true then -((0 : Nat) : Int) else ((0 : Nat) : Int)) + if false = true then -(A : Int) else (A : Int)) = A := by split <;> simp
    rw [e1, if_neg (by omega)]
    have e5 : decide ((A : Int) < 0) = false := by simp
    rw [e5, Int.natAbs_natCast, hr, hself, ← hsy]
    exact hw
  · have e1 : ((if sg x = true then -((0 : Nat) : Int) else ((0 : Nat) : Int)) + if true = true then -(A : Int) else (A : Int)) = -A := by split <;> simp
    rw [e1, if_neg (by omega)]
    have e5 : decide (-(A : Int) < 0) = true := by simp; omega
    rw [e5, Int.natAbs_neg, Int.natAbs_natCast, hr, hself, ← hsy]
    exact hw

theorem read_nan (x : Nat) (hx : x < 2 ^ 64) (k : exf x = 2047) (f : fr x ≠ 0) : double.read x = .nan (sg x) (fr x) := by rw [read_eq x hx, if_pos k, if_neg f]
theorem read_inf (x : Nat) (hx : x < 2 ^ 64) (k : exf x = 2047) (f : fr x = 0) : double.read x = .infinity (sg x) := by rw [read_eq x hx, if_pos k, if_pos f]
theorem read_fin (x : Nat) (hx : x < 2 ^ 64) (k : exf x ≠ 2047) : double.read x = .number (sg x) (mag x) (plc x) := by rw [read_eq x hx, if_neg k]
theorem inf_self (x : Nat) (hx : x < 2 ^ 64) (k : exf x = 2047) (f : fr x = 0) : word (sg x) (2047 * 2 ^ 52) = x := by
  have h := word_self x hx
  rw [rungOf x hx, k, f] at h
  exact h

theorem add_nan_l (x y : Nat) (hx : x < 2 ^ 64) (k : exf x = 2047) (f : fr x ≠ 0) : numOf (double.add x y) = nanW := by
  unfold Ieee.Format.add
  rw [read_nan x hx k f]; rfl
theorem add_nan_r (x y : Nat) (hy : y < 2 ^ 64) (k : exf y = 2047) (f : fr y ≠ 0) : numOf (double.add x y) = nanW := by
  rw [add_comm]; exact add_nan_l y x hy k f
theorem add_inf_inf (x y : Nat) (hx : x < 2 ^ 64) (hy : y < 2 ^ 64) (k : exf x = 2047) (f : fr x = 0) (k2 : exf y = 2047) (f2 : fr y = 0) : numOf (double.add x y) = if sg x = sg y then x else nanW := by
  unfold Ieee.Format.add
  rw [read_inf x hx k f, read_inf y hy k2 f2]
  have h := inf_self x hx k f
  by_cases c : sg x = sg y
  · rw [if_pos c]
    show numOf ((if sg x = sg y then some (Ieee.Datum.infinity (sg x)) else none).map double.write) = x
    rw [if_pos c, Option.map_some, write_inf, h]; rfl
  · rw [if_neg c]
    show numOf ((if sg x = sg y then some (Ieee.Datum.infinity (sg x)) else none).map double.write) = nanW
    rw [if_neg c]; rfl
theorem add_inf_l (x y : Nat) (hx : x < 2 ^ 64) (hy : y < 2 ^ 64) (k : exf x = 2047) (f : fr x = 0) (k2 : exf y ≠ 2047) : numOf (double.add x y) = x := by
  unfold Ieee.Format.add
  rw [read_inf x hx k f, read_fin y hy k2]
  have h := inf_self x hx k f
  show numOf ((some (Ieee.Datum.infinity (sg x))).map double.write) = x
  rw [Option.map_some, write_inf, h]; rfl

/-- the last bit set -/
theorem or_one (q : Nat) : q ||| 1 = if q % 2 = 1 then q else q + 1 := by
  apply Nat.eq_of_testBit_eq
  intro i
  rw [Nat.testBit_or]
  cases i with
  | zero =>
    simp only [Nat.testBit_zero]
    split <;> simp <;> omega
  | succ i =>
    simp only [Nat.testBit_succ]
    split
    · simp
    · simp
      congr 1
      omega

theorem sticky_far (B d : Nat) (h0 : 0 < B) (h : B < 2 ^ 62) (hd : 62 ≤ d) : Sticky d B 1 := by
  right
  have : 2 ^ 62 ≤ 2 ^ d := Nat.pow_le_pow_right (by omega) hd
  refine ⟨rfl, by simpa using h0, by omega⟩

theorem sticky_near (B d : Nat) (hr : B % 2 ^ d ≠ 0) : Sticky d B (B / 2 ^ d ||| 1) := by
  right
  have hp := Nat.two_pow_pos d
  have hm := Nat.mod_lt B hp
  have hdm := Nat.div_add_mod B (2 ^ d)
  rw [Nat.mul_comm] at hdm
  generalize B / 2 ^ d = Q at *
  generalize B % 2 ^ d = R at *
  generalize 2 ^ d = X at *
  subst hdm
  rw [or_one]
  split
  · rename_i h
    refine ⟨h, ?_, ?_⟩
    · have : (Q - 1) * X ≤ Q * X := Nat.mul_le_mul_right _ (by omega)
      omega
    · rw [Nat.add_mul]; omega
  · rename_i h
    refine ⟨by omega, ?_, ?_⟩
    · rw [Nat.add_sub_cancel]; omega
    · rw [show Q + 1 + 1 = Q + 2 by omega, Nat.add_mul]; omega

theorem exact_near (B d : Nat) (hr : B % 2 ^ d = 0) : B = B / 2 ^ d * 2 ^ d := by
  have hdm := Nat.div_add_mod B (2 ^ d)
  rw [hr, Nat.mul_comm] at hdm
  omega

theorem ten (m d : Nat) (hr : m * 512 % 2 ^ d ≠ 0) : 10 ≤ d := by
  rcases Nat.lt_or_ge d 10 with h | h
  · exfalso
    apply hr
    have e : m * 512 = m * 2 ^ (9 - d) * 2 ^ d := by
      rw [Nat.mul_assoc, ← Nat.pow_add, show 9 - d + d = 9 by omega]
    rw [e, Nat.mul_mod_left]
  · exact h
end Go.Proofs.Ytelgmffmekfndaa.Fl
