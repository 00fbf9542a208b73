/- What the given reading of the standard makes of a word, in the reference's terms. Plain law, no program. Condition: the word fits 64 bits. -/
import Derived.Test.YtelgmffmekfndaaFltDec
set_option linter.unusedVariables false
namespace Go.Proofs.Ytelgmffmekfndaa.Fl
open Ieee (double)

def nanW : Nat := 9221120237041090560
def numOf (o : Option Nat) : Nat := o.getD nanW

def mag (b : Nat) : Nat := if exf b = 0 then fr b else 2 ^ 52 + fr b
def plc (b : Nat) : Int := if exf b = 0 then -1074 else (exf b : Int) - 1075
def upn (b : Nat) : Nat := if exf b = 0 then ups (fr b) else 0

theorem mant_mag (b : Nat) (h : exf b ≠ 2047) : mant b = mag b * 2 ^ upn b := by
  unfold mant mag upn
  rw [if_neg h]
  split <;> simp
theorem expo_plc (b : Nat) (h : exf b ≠ 2047) : expo b = plc b - upn b := by
  unfold expo plc upn
  rw [if_neg h]
  split <;> simp
theorem mag_zero (b : Nat) (h : exf b ≠ 2047) : mag b = 0 ↔ mant b = 0 := by
  rw [mant_mag b h]
  have := Nat.two_pow_pos (upn b)
  constructor
  · intro e; rw [e]; simp
  · intro e
    rcases Nat.mul_eq_zero.1 e with h1 | h1
    · exact h1
    · omega

theorem parts (b : Nat) (hb : b < 2 ^ 64) : b = (if sg b then 2 ^ 63 else 0) + exf b * 2 ^ 52 + fr b := by
  unfold sg exf fr
  by_cases h : 2 ^ 63 ≤ b
  · rw [if_pos (by simpa using h)]; omega
  · rw [if_neg (by simpa using h)]; omega

theorem rungOf (b : Nat) (hb : b < 2 ^ 64) : b % 2 ^ 63 = exf b * 2 ^ 52 + fr b := by
  unfold exf fr
  omega

theorem neg_eq (b : Nat) (hb : b < 2 ^ 64) : (b / 2 ^ 63 % 2 == 1) = sg b := by
  unfold sg
  rw [Bool.eq_iff_iff]
  simp
  omega

theorem read_eq (b : Nat) (hb : b < 2 ^ 64) : double.read b =
    if exf b = 2047 then (if fr b = 0 then .infinity (sg b) else .nan (sg b) (fr b)) else .number (sg b) (mag b) (plc b) := by
  have hw : double.signWeight = 2 ^ 63 := by decide
  have hl : double.leastPlace = -1074 := by decide
  have e1 : double.infRung = 2047 * 2 ^ 52 := by decide
  have e2 : double.binade = 2 ^ 52 := by decide
  have hf := fr_lt b
  have hx := exf_lt b
  unfold Ieee.Format.read
  simp only [hw, hl, e1, e2]
  rw [neg_eq b hb, rungOf b hb]
  by_cases c : exf b = 0
  · rw [c, if_pos (by omega), if_neg (by omega)]
    unfold mag plc
    rw [if_pos c, if_pos c]
    simp
  · rw [if_neg (by omega)]
    by_cases d : exf b = 2047
    · rw [d, if_neg (by omega), if_pos rfl]
      by_cases f : fr b = 0
      · rw [f, if_pos (by omega), if_pos rfl]
      · rw [if_neg (by omega), if_neg f, Nat.add_sub_cancel_left]
    · rw [if_pos (by omega), if_neg d]
      unfold mag plc
      rw [if_neg c, if_neg c]
      congr 1
      · omega
      · omega

theorem word_lt (s : Bool) (r : Nat) (h : r < 2 ^ 63) : word s r < 2 ^ 64 := by
  unfold word; split <;> omega
theorem word_mod (s : Bool) (r : Nat) (h : r < 2 ^ 63) : word s r % 2 ^ 63 = r := by
  unfold word; split <;> omega
theorem word_sg (s : Bool) (r : Nat) (h : r < 2 ^ 63) : sg (word s r) = s := by
  unfold word sg; cases s <;> simp <;> omega

/-- a word is its sign over its rung -/
theorem word_self (b : Nat) (hb : b < 2 ^ 64) : word (sg b) (b % 2 ^ 63) = b := by
  unfold word sg
  by_cases h : 2 ^ 63 ≤ b
  · rw [if_pos (by simpa using h)]; omega
  · rw [if_neg (by simpa using h)]; omega

/-- a finite word is the nearest to the number that it stands for -/
theorem rung_self (b : Nat) (hb : b < 2 ^ 64) (h : exf b ≠ 2047) : rung (mag b) (plc b) = b % 2 ^ 63 := by
  rw [rungOf b hb]
  have hf := fr_lt b
  have hx := exf_lt b
  unfold mag plc
  by_cases c : exf b = 0
  · rw [if_pos c, if_pos c, c, rung_small _ (by omega)]; omega
  · rw [if_neg c, if_neg c, rung_exact _ _ (by omega) (by omega) (by omega) (by omega)]
    omega

theorem write_number (s : Bool) (m : Nat) (p : Int) : double.write (.number s m p) = word s (rung m p) := nearest_eq s m p
theorem write_inf (s : Bool) : double.write (.infinity s) = word s (2047 * 2 ^ 52) := by
  cases s <;> decide

theorem signed_eq (s : Bool) (m k : Nat) : Ieee.signed s m k = if s then -((m * 2 ^ k : Nat) : Int) else ((m * 2 ^ k : Nat) : Int) := by
  unfold Ieee.signed
  rw [Nat.shiftLeft_eq]

theorem signed_mul (s : Bool) (m a k : Nat) : Ieee.signed s m (a + k) = Ieee.signed s m a * ((2 ^ k : Nat) : Int) := by
  rw [signed_eq, signed_eq, Nat.pow_add, ← Nat.mul_assoc]
  cases s
  · simp
  · simp only [if_true, Int.natCast_mul]
    rw [Int.neg_mul]

/-- a sum, reckoned at whatever place is low enough -/
theorem sum_write (s t : Bool) (m n : Nat) (i j p : Int) (hi : p ≤ i) (hj : p ≤ j) :
    ((Ieee.Datum.sum (.number s m i) (.number t n j)).map double.write) =
      some (let T := Ieee.signed s m (i - p).toNat + Ieee.signed t n (j - p).toNat; if T = 0 then word (s && t) 0 else word (decide (T < 0)) (rung T.natAbs p)) := by
  unfold Ieee.Datum.sum
  simp only [Option.map_some, write_number]
  generalize hb : min i j = base
  have hpb : p ≤ base := by omega
  obtain ⟨k, hk⟩ : ∃ k : Nat, (k : Int) = base - p := ⟨(base - p).toNat, by omega⟩
  have ei : (i - p).toNat = (i - base).toNat + k := by omega
  have ej : (j - p).toNat = (j - base).toNat + k := by omega
  rw [ei, ej, signed_mul, signed_mul, ← Int.add_mul]
  generalize Ieee.signed s m (i - base).toNat + Ieee.signed t n (j - base).toNat = X
  have hpk := Nat.two_pow_pos k
  congr 1
  by_cases h0 : X = 0
  · subst h0
    simp [rung_zero]
  · have h1 : X * ((2 ^ k : Nat) : Int) ≠ 0 := Int.mul_ne_zero h0 (by omega)
    rw [if_neg h0, if_neg h1]
    have e1 : decide (X * ((2 ^ k : Nat) : Int) < 0) = decide (X < 0) := by
      rw [decide_eq_decide]
      constructor
      · intro h
        by_cases hx : X < 0
        · exact hx
        · have := Int.mul_nonneg (show 0 ≤ X by omega) (show (0 : Int) ≤ ((2 ^ k : Nat) : Int) by omega)
          omega
      · intro h
        exact Int.mul_neg_of_neg_of_pos h (by omega)
    rw [e1, Int.natAbs_mul, Int.natAbs_natCast]
    have e2 : p = base - k := by omega
    rw [e2, rung_mul]
end Go.Proofs.Ytelgmffmekfndaa.Fl
