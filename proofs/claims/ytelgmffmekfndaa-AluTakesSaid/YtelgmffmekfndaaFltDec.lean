/- What a word stands for, as the reference's Of has it: sign, field, fraction, and the number of 53 bits. Plain law, no program. No conditions beyond those named. -/
import Derived.Test.YtelgmffmekfndaaFltD
namespace Go.Proofs.Ytelgmffmekfndaa.Fl

def sg (b : Nat) : Bool := decide (2 ^ 63 ≤ b)
def exf (b : Nat) : Nat := b / 2 ^ 52 % 2048
def fr (b : Nat) : Nat := b % 2 ^ 52
def kindOf (b : Nat) : Nat := if exf b = 2047 then (if fr b = 0 then 105 else 110) else 102
/-- how often the number must be doubled -/
def ups (m : Nat) : Nat := if m = 0 then 0 else 52 - m.log2
def mant (b : Nat) : Nat := if exf b = 2047 then fr b else if exf b = 0 then fr b * 2 ^ ups (fr b) else 2 ^ 52 + fr b
def expo (b : Nat) : Int := if exf b = 2047 then 2047 else if exf b = 0 then -1074 - ups (fr b) else (exf b : Int) - 1075

theorem fr_lt (b : Nat) : fr b < 2 ^ 52 := Nat.mod_lt _ (by decide)
theorem exf_lt (b : Nat) : exf b < 2048 := Nat.mod_lt _ (by decide)
theorem log2_fr {m : Nat} (h : m < 2 ^ 52) : m.log2 ≤ 51 := by
  by_cases h0 : m = 0
  · subst h0; decide
  · have := (Nat.log2_lt h0).2 h
    omega
theorem ups_le (m : Nat) : ups m ≤ 52 := by unfold ups; split <;> omega
theorem ups_top {m : Nat} (h0 : m ≠ 0) (h : m < 2 ^ 52) : 2 ^ 52 ≤ m * 2 ^ ups m ∧ m * 2 ^ ups m < 2 ^ 53 := by
  have hl := log2_fr h
  unfold ups
  rw [if_neg h0]
  have a := Nat.log2_self_le h0
  have b : m < 2 ^ (m.log2 + 1) := Nat.lt_log2_self
  constructor
  · calc 2 ^ 52 = 2 ^ m.log2 * 2 ^ (52 - m.log2) := by rw [← Nat.pow_add]; congr 1; omega
      _ ≤ _ := Nat.mul_le_mul_right _ a
  · calc _ < 2 ^ (m.log2 + 1) * 2 ^ (52 - m.log2) := Nat.mul_lt_mul_of_pos_right b (Nat.two_pow_pos _)
      _ = 2 ^ 53 := by rw [← Nat.pow_add]; congr 1; omega
theorem ups_below {m j : Nat} (h0 : m ≠ 0) (h : m < 2 ^ 52) (hj : j < ups m) : m * 2 ^ j < 2 ^ 52 := by
  have hl := log2_fr h
  unfold ups at hj
  rw [if_neg h0] at hj
  have b : m < 2 ^ (m.log2 + 1) := Nat.lt_log2_self
  calc m * 2 ^ j < 2 ^ (m.log2 + 1) * 2 ^ j := Nat.mul_lt_mul_of_pos_right b (Nat.two_pow_pos _)
    _ = 2 ^ (m.log2 + 1 + j) := by rw [← Nat.pow_add]
    _ ≤ 2 ^ 52 := Nat.pow_le_pow_right (by omega) (by omega)

theorem mant_lt (b : Nat) : mant b < 2 ^ 53 := by
  unfold mant
  have hf := fr_lt b
  split
  · omega
  · split
    · by_cases h0 : fr b = 0
      · rw [h0]; simp
      · exact (ups_top h0 hf).2
    · omega
/-- a finite number's 53 bits: none, or the highest is set -/
theorem mant_ge (b : Nat) (hk : exf b ≠ 2047) (h0 : mant b ≠ 0) : 2 ^ 52 ≤ mant b := by
  unfold mant at *
  rw [if_neg hk] at *
  have hf := fr_lt b
  split
  · rename_i h
    rw [if_pos h] at h0
    have h1 : fr b ≠ 0 := by intro e; rw [e] at h0; simp at h0
    exact (ups_top h1 hf).1
  · omega
theorem expo_bd (b : Nat) : -1126 ≤ expo b ∧ expo b ≤ 2047 := by
  unfold expo
  have := ups_le (fr b)
  have := exf_lt b
  split
  · omega
  · split <;> omega
theorem expo_fin (b : Nat) (hk : exf b ≠ 2047) : expo b ≤ 971 := by
  unfold expo
  have := exf_lt b
  rw [if_neg hk]
  split <;> omega
end Go.Proofs.Ytelgmffmekfndaa.Fl
