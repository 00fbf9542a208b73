/- A number made whole towards 0, never beyond the greatest; whole numbers made numbers. Plain law, no program. No conditions beyond those named. -/
import Derived.Test.YtelgmffmekfndaaFltNum
namespace Go.Proofs.Ytelgmffmekfndaa.Fl
open Ieee (double)

def whole (b : Nat) : Int :=
  if exf b = 2047 then (if fr b = 0 then (if sg b then -9223372036854775808 else 9223372036854775807) else 0)
  else if mant b = 0 ∨ expo b < -53 then 0
  else if 10 < expo b then (if sg b then -9223372036854775808 else 9223372036854775807)
  else
    let m : Nat := if expo b < 0 then mant b / 2 ^ (-expo b).toNat else mant b * 2 ^ (expo b).toNat
    if sg b then -(m : Int) else m

theorem cut_zero (s : Bool) (n d : Nat) : Ieee.Toward.zero.cut s n d = n / 2 ^ d := by
  unfold Ieee.Toward.cut
  simp only [Nat.one_shiftLeft, Bool.toNat_false, Nat.add_zero]
  by_cases h : d ≤ n.log2 + 2
  · rw [Nat.min_eq_left h]
  · rw [Nat.min_eq_right (by omega)]
    have hn : n < 2 ^ (n.log2 + 1) := Nat.lt_log2_self
    have e1 : 2 ^ (n.log2 + 2) = 2 * 2 ^ (n.log2 + 1) := by rw [Nat.pow_succ]; omega
    have e2 : 2 ^ (n.log2 + 2) ≤ 2 ^ d := Nat.pow_le_pow_right (by omega) (by omega)
    rw [Nat.div_eq_of_lt (by omega), Nat.div_eq_of_lt (by omega)]

theorem toInt_fin (b : Nat) (hb : b < 2 ^ 64) (k : exf b ≠ 2047) :
    (double.read b).toInt .zero = some (if sg b then -((mag b * 2 ^ (plc b).toNat / 2 ^ (-plc b).toNat : Nat) : Int) else ((mag b * 2 ^ (plc b).toNat / 2 ^ (-plc b).toNat : Nat) : Int)) := by
  rw [read_fin b hb k]
  unfold Ieee.Datum.toInt Ieee.Datum.integral
  simp only [cut_zero, Nat.shiftLeft_eq, signed_eq, Nat.pow_zero, Nat.mul_one]

theorem mag_norm {b : Nat} (k : exf b ≠ 2047) (c : exf b ≠ 0) : mant b = mag b ∧ expo b = plc b ∧ 2 ^ 52 ≤ mag b ∧ mag b < 2 ^ 53 ∧ mag b = 2 ^ 52 + fr b := by
  have hf := fr_lt b
  unfold mant mag expo plc
  rw [if_neg k, if_neg c, if_neg c, if_neg k, if_neg c, if_neg c]
  omega

theorem mag_sub {b : Nat} (c : exf b = 0) : mag b = fr b ∧ plc b = -1074 ∧ expo b ≤ -1074 := by
  unfold mag plc expo
  rw [if_pos c, if_pos c, c, if_neg (by omega), if_pos rfl]
  omega

theorem whole_low {b : Nat} (k : exf b ≠ 2047) (h : mant b = 0 ∨ expo b < -53) : whole b = 0 := by
  unfold whole
  rw [if_neg k, if_pos h]

theorem whole_mid {b : Nat} (k : exf b ≠ 2047) (h : ¬ (mant b = 0 ∨ expo b < -53)) (h1 : ¬ 10 < expo b) : whole b =
    if sg b then -((if expo b < 0 then mant b / 2 ^ (-expo b).toNat else mant b * 2 ^ (expo b).toNat : Nat) : Int) else ((if expo b < 0 then mant b / 2 ^ (-expo b).toNat else mant b * 2 ^ (expo b).toNat : Nat) : Int) := by
  unfold whole
  rw [if_neg k, if_neg h, if_neg h1]

theorem div_none {m n k : Nat} (h : m < 2 ^ k) (hn : k ≤ n) : m / 2 ^ n = 0 :=
  Nat.div_eq_of_lt (Nat.lt_of_lt_of_le h (Nat.pow_le_pow_right (by omega) hn))

theorem toInt_whole (b : Nat) (hb : b < 2 ^ 64) (k : exf b ≠ 2047) (h : plc b ≤ 10) : (double.read b).toInt .zero = some (whole b) := by
  rw [toInt_fin b hb k]
  congr 1
  have hf := fr_lt b
  by_cases c : exf b = 0
  · obtain ⟨m1, p1, e1⟩ := mag_sub c
    rw [whole_low k (.inr (by omega))]
    have e3 : (plc b).toNat = 0 := by omega
    rw [e3, Nat.pow_zero, Nat.mul_one, m1, div_none hf (by omega)]
    simp
  · obtain ⟨m1, p1, g1, g2, _⟩ := mag_norm k c
    by_cases f : expo b < -53
    · rw [whole_low k (.inr f)]
      have e3 : (plc b).toNat = 0 := by omega
      rw [e3, Nat.pow_zero, Nat.mul_one, div_none g2 (by omega)]
      simp
    · rw [whole_mid k (by omega) (by omega), m1, p1]
      by_cases g : plc b < 0
      · have e3 : (plc b).toNat = 0 := by omega
        rw [if_pos g, e3, Nat.pow_zero, Nat.mul_one]
      · have e3 : (-plc b).toNat = 0 := by omega
        rw [if_neg g, e3, Nat.pow_zero, Nat.div_one]

theorem read_top : double.read 4890909195324358656 = .number false (2 ^ 52) 11 := by decide
theorem read_bottom : double.read 14114281232179134464 = .number true (2 ^ 52) 11 := by decide

theorem order_top (b : Nat) (hb : b < 2 ^ 64) (k : exf b ≠ 2047) : double.order b 4890909195324358656 = some (compare (if sg b then -((mag b * 2 ^ (plc b - min (plc b) 11).toNat : Nat) : Int) else ((mag b * 2 ^ (plc b - min (plc b) 11).toNat : Nat) : Int)) ((2 ^ 52 * 2 ^ (11 - min (plc b) 11).toNat : Nat) : Int)) := by
  unfold Ieee.Format.order
  rw [read_fin b hb k, read_top]
  unfold Ieee.Datum.order
  simp only [signed_eq, Bool.false_eq_true, if_false]

theorem order_bottom (b : Nat) (hb : b < 2 ^ 64) (k : exf b ≠ 2047) : double.order b 14114281232179134464 = some (compare (if sg b then -((mag b * 2 ^ (plc b - min (plc b) 11).toNat : Nat) : Int) else ((mag b * 2 ^ (plc b - min (plc b) 11).toNat : Nat) : Int)) (-((2 ^ 52 * 2 ^ (11 - min (plc b) 11).toNat : Nat) : Int))) := by
  unfold Ieee.Format.order
  rw [read_fin b hb k, read_bottom]
  unfold Ieee.Datum.order
  simp only [signed_eq, if_true]

theorem cmp_lt {a b : Int} (h : a < b) : compare a b = .lt := by
  simp [compare, compareOfLessAndEq, h]
theorem cmp_gt {a b : Int} (h : b < a) : compare a b = .gt := by
  have h1 : ¬ a < b := by omega
  have h2 : a ≠ b := by omega
  simp [compare, compareOfLessAndEq, h1, h2]
theorem cmp_eq (a : Int) : compare a a = .eq := by
  simp [compare, compareOfLessAndEq]

/-- up to place 10 a number lies between the two bounds -/
theorem order_mid (b : Nat) (hb : b < 2 ^ 64) (k : exf b ≠ 2047) (h : plc b ≤ 10) : double.order b 4890909195324358656 = some .lt ∧ double.order b 14114281232179134464 = some .gt := by
  rw [order_top b hb k, order_bottom b hb k]
  have hm : mag b < 2 ^ 53 := by have := fr_lt b; unfold mag; split <;> omega
  have e1 : (plc b - min (plc b) 11).toNat = 0 := by omega
  have e2 : (2 : Nat) ^ 1 ≤ 2 ^ (11 - min (plc b) 11).toNat := Nat.pow_le_pow_right (by omega) (by omega)
  rw [e1, Nat.pow_zero, Nat.mul_one]
  generalize 2 ^ (11 - min (plc b) 11).toNat = T at *
  have e3 : 2 ^ 52 * 2 ≤ 2 ^ 52 * T := Nat.mul_le_mul_left _ e2
  generalize 2 ^ 52 * T = U at *
  constructor
  · rw [cmp_lt]; split <;> omega
  · rw [cmp_gt]; split <;> omega

/-- beyond, by its sign -/
theorem order_far (b : Nat) (hb : b < 2 ^ 64) (k : exf b ≠ 2047) (h : 11 ≤ plc b) :
    (sg b = false → (double.order b 4890909195324358656 = some .gt ∨ double.order b 4890909195324358656 = some .eq)) ∧
    (sg b = true → double.order b 4890909195324358656 = some .lt ∧ (double.order b 14114281232179134464 = some .lt ∨ (double.order b 14114281232179134464 = some .eq ∧ mag b * 2 ^ (plc b - 11).toNat = 2 ^ 52))) := by
  rw [order_top b hb k, order_bottom b hb k]
  have c : exf b ≠ 0 := by intro c; have := (mag_sub c).2.1; omega
  have g := (mag_norm k c).2.2.1
  have e1 : min (plc b) 11 = 11 := by omega
  rw [e1]
  have e2 : 1 ≤ 2 ^ (plc b - 11).toNat := Nat.two_pow_pos _
  have e3 : mag b * 1 ≤ mag b * 2 ^ (plc b - 11).toNat := Nat.mul_le_mul_left _ e2
  generalize mag b * 2 ^ (plc b - 11).toNat = U at *
  have e4 : (2 ^ 52 * 2 ^ ((11 : Int) - 11).toNat : Nat) = 2 ^ 52 := rfl
  rw [e4]
  have e5 : 2 ^ 52 ≤ U := by omega
  constructor
  · intro s
    rw [s]
    simp only [Bool.false_eq_true, if_false]
    by_cases q : U = 2 ^ 52
    · right; rw [q, cmp_eq]
    · left; rw [cmp_gt]; omega
  · intro s
    rw [s]
    simp only [if_true]
    refine ⟨by rw [cmp_lt]; omega, ?_⟩
    by_cases q : U = 2 ^ 52
    · right; rw [q, cmp_eq]; exact ⟨rfl, rfl⟩
    · left; rw [cmp_lt]; omega

theorem whole_far (b : Nat) (k : exf b ≠ 2047) (h : 11 ≤ plc b) : whole b = if sg b then -9223372036854775808 else 9223372036854775807 := by
  have c : exf b ≠ 0 := by intro c; have := (mag_sub c).2.1; omega
  obtain ⟨m1, p1, g1, g2, _⟩ := mag_norm k c
  unfold whole
  rw [if_neg k, if_neg (by omega), if_pos (by omega)]

/-- the least one of all is whole already -/
theorem toInt_least (b : Nat) (hb : b < 2 ^ 64) (k : exf b ≠ 2047) (h : 11 ≤ plc b) (s : sg b = true) (q : mag b * 2 ^ (plc b - 11).toNat = 2 ^ 52) : (double.read b).toInt .zero = some (whole b) := by
  rw [toInt_fin b hb k, whole_far b k h, s]
  have e3 : (-plc b).toNat = 0 := by omega
  have e4 : (plc b).toNat = (plc b - 11).toNat + 11 := by omega
  rw [e3, e4, Nat.pow_add, ← Nat.mul_assoc, q]
  rfl

theorem whole_bd (b : Nat) : -9223372036854775808 ≤ whole b ∧ whole b ≤ 9223372036854775807 := by
  have hm := mant_lt b
  unfold whole
  split
  · split
    · split <;> omega
    · omega
  · split
    · omega
    · split
      · split <;> omega
      · rename_i h1 h2
        have key : (if expo b < 0 then mant b / 2 ^ (-expo b).toNat else mant b * 2 ^ (expo b).toNat) ≤ 9223372036854775807 := by
          split
          · have := Nat.div_le_self (mant b) (2 ^ (-expo b).toNat); omega
          · have e1 : 2 ^ (expo b).toNat ≤ 2 ^ 10 := Nat.pow_le_pow_right (by omega) (by omega)
            have e2 := Nat.mul_le_mul_left (mant b) e1
            omega
        dsimp only
        split <;> omega

theorem order_inf (b : Nat) (hb : b < 2 ^ 64) (k : exf b = 2047) (f : fr b = 0) :
    double.order b b = some .eq ∧ (sg b = false → double.order b 4890909195324358656 = some .gt) ∧ (sg b = true → double.order b 4890909195324358656 = some .lt ∧ double.order b 14114281232179134464 = some .lt) := by
  refine ⟨order_self b (by have := rungOf b hb; omega) hb, ?_, ?_⟩ <;> intro s <;> unfold Ieee.Format.order <;> rw [read_inf b hb k f, read_top]
  · rw [s]; rfl
  · rw [read_bottom, s]; exact ⟨rfl, rfl⟩

/-- a whole number of 53 bits is the number, and back -/
theorem whole_small (s : Bool) (m : Nat) (h : m < 2 ^ 53) : whole (word s (rung m 0)) = if s then -(m : Int) else m := by
  by_cases z : m = 0
  · subst z
    rw [rung_zero]
    cases s <;> decide
  have l0 := Nat.log2_self_le z
  have l1 : m < 2 ^ (m.log2 + 1) := Nat.lt_log2_self
  have l2 : m.log2 < 53 := (Nat.log2_lt z).2 h
  generalize m.log2 = L at *
  have r1 : rung m 0 = rung (m * 2 ^ (52 - L)) (0 - ((52 - L : Nat) : Int)) := (rung_mul m 0 (52 - L)).symm
  have b0 : 2 ^ 52 ≤ m * 2 ^ (52 - L) := by
    calc 2 ^ 52 = 2 ^ L * 2 ^ (52 - L) := by rw [← Nat.pow_add]; congr 1; omega
      _ ≤ _ := Nat.mul_le_mul_right _ l0
  have b1 : m * 2 ^ (52 - L) < 2 ^ 53 := by
    calc _ < 2 ^ (L + 1) * 2 ^ (52 - L) := Nat.mul_lt_mul_of_pos_right l1 (Nat.two_pow_pos _)
      _ = 2 ^ 53 := by rw [← Nat.pow_add]; congr 1; omega
  have q : m * 2 ^ (52 - L) / 2 ^ (52 - L) = m := Nat.mul_div_cancel _ (Nat.two_pow_pos _)
  rw [rung_exact _ _ b0 b1 (by omega) (by omega)] at r1
  generalize m * 2 ^ (52 - L) = F at *
  have r2 : rung m 0 = (L + 1023) * 2 ^ 52 + (F - 2 ^ 52) := by rw [r1]; congr 2; omega
  rw [r2]
  clear r1 r2
  have hx : exf (word s ((L + 1023) * 2 ^ 52 + (F - 2 ^ 52))) = L + 1023 := by
    unfold exf word; split <;> omega
  have hf : fr (word s ((L + 1023) * 2 ^ 52 + (F - 2 ^ 52))) = F - 2 ^ 52 := by
    unfold fr word; split <;> omega
  have hs : sg (word s ((L + 1023) * 2 ^ 52 + (F - 2 ^ 52))) = s := word_sg _ _ (by omega)
  generalize word s ((L + 1023) * 2 ^ 52 + (F - 2 ^ 52)) = b at *
  have hm : mant b = F := by unfold mant; rw [if_neg (by omega), if_neg (by omega)]; omega
  have he : expo b = (L : Int) - 52 := by unfold expo; rw [if_neg (by omega), if_neg (by omega)]; omega
  unfold whole
  rw [if_neg (by omega), if_neg (by omega), if_neg (by omega), hm, he, hs]
  by_cases g : L = 52
  · subst g
    simp at q
    subst q
    simp
  · have e1 : (-((L : Int) - 52)).toNat = 52 - L := by omega
    have e2 : ((L : Int) - 52 < 0) := by omega
    simp only [if_pos e2, e1, q]
end Go.Proofs.Ytelgmffmekfndaa.Fl
