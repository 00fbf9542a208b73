/- Rounding to the nearest, as a rung: the given reading of the standard is this. Plain law, no program. No conditions. -/
import Ieee.Arith
namespace Go.Proofs.Ytelgmffmekfndaa.Fl

/-- to the nearest, to even ones in the middle -/
def rne (n d : Nat) : Nat := n / 2 ^ d + (if 2 ^ d < 2 * (n % 2 ^ d) ∨ (2 ^ d = 2 * (n % 2 ^ d) ∧ n / 2 ^ d % 2 = 1) then 1 else 0)
def last (mag : Nat) (place : Int) : Int := max (place + mag.log2 - 52) (-1074)
def kept (mag : Nat) (place : Int) : Nat := rne (mag * 2 ^ (place - last mag place).toNat) (last mag place - place).toNat
def rung (mag : Nat) (place : Int) : Nat := if mag = 0 then 0 else min ((last mag place + 1074).toNat * 2 ^ 52 + kept mag place) (2047 * 2 ^ 52)
def word (neg : Bool) (r : Nat) : Nat := if neg then 2 ^ 63 + r else r

theorem cut_eq (neg : Bool) (n d : Nat) : Ieee.Toward.even.cut neg n d = rne n d := by
  unfold Ieee.Toward.cut rne
  simp only [Nat.one_shiftLeft]
  by_cases h : d ≤ n.log2 + 2
  · rw [Nat.min_eq_left h]
    congr 1
    by_cases h1 : 2 ^ d < 2 * (n % 2 ^ d)
    · simp [h1]
    · by_cases h2 : 2 ^ d = 2 * (n % 2 ^ d)
      · by_cases h3 : n / 2 ^ d % 2 = 1
        · rw [if_pos (.inr ⟨h2, h3⟩)]
          have e1 : (2 ^ d == 2 * (n % 2 ^ d)) = true := by simpa using h2
          have e2 : (n / 2 ^ d % 2 == 1) = true := by simpa using h3
          simp [e1, e2]
        · rw [if_neg (by rintro (h | h); exact h1 h; exact h3 h.2)]
          have e2 : (n / 2 ^ d % 2 == 1) = false := by simpa using h3
          simp [h1, e2]
      · rw [if_neg (by rintro (h | h); exact h1 h; exact h2 h.1)]
        have e2 : (2 ^ d == 2 * (n % 2 ^ d)) = false := by simpa using h2
        simp [h1, e2]
  · rw [Nat.min_eq_right (by omega)]
    have hn : n < 2 ^ (n.log2 + 1) := Nat.lt_log2_self
    have e1 : 2 ^ (n.log2 + 2) = 2 * 2 ^ (n.log2 + 1) := by rw [Nat.pow_succ]; omega
    have e2 : 2 ^ (n.log2 + 2) ≤ 2 ^ d := Nat.pow_le_pow_right (by omega) (by omega)
    have a1 : n < 2 ^ (n.log2 + 2) := by omega
    have a2 : n < 2 ^ d := by omega
    rw [Nat.div_eq_of_lt a1, Nat.mod_eq_of_lt a1, Nat.div_eq_of_lt a2, Nat.mod_eq_of_lt a2]
    rw [if_neg (by omega)]
    have e3 : ¬ 2 ^ (n.log2 + 2) < 2 * n := by omega
    simp [e3]

theorem nearest_eq (neg : Bool) (mag : Nat) (place : Int) : Ieee.double.nearest neg mag place = word neg (rung mag place) := by
  unfold Ieee.Format.nearest rung word
  have hw : ∀ r, Ieee.double.word neg r = if neg then 2 ^ 63 + r else r := by
    intro r; unfold Ieee.Format.word; rfl
  have hl : Ieee.double.leastPlace = -1074 := by decide
  by_cases h : mag = 0
  · simp [h, hw]
  · rw [if_neg h, if_neg h]
    simp only [hw, cut_eq, hl, Nat.shiftLeft_eq]
    have e1 : Ieee.double.infRung = 2047 * 2 ^ 52 := by decide
    have e2 : Ieee.double.binade = 2 ^ 52 := by decide
    have e3 : (Ieee.double.fractionBits : Int) = 52 := rfl
    rw [e1, e2, e3]
    have e4 : ∀ x : Int, x - (-1074) = x + 1074 := by intro x; omega
    simp only [e4]
    rfl
end Go.Proofs.Ytelgmffmekfndaa.Fl
