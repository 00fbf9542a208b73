/- Rounding as the reference does it: how many bits; each branch of its text gives the rung. Plain law, no program. No conditions beyond those named. -/
import Derived.Test.YtelgmffmekfndaaFltC
namespace Go.Proofs.Ytelgmffmekfndaa.Fl

/-- how many bits a number has -/
def sz (m : Nat) : Nat := if m = 0 then 0 else m.log2 + 1
theorem sz_zero : sz 0 = 0 := rfl
theorem sz_half {m : Nat} (h : m ≠ 0) : sz m = sz (m / 2) + 1 := by
  unfold sz
  rw [if_neg h]
  rw [Nat.log2_def m]
  by_cases h2 : 2 ≤ m
  · rw [if_pos h2, if_neg (by omega)]
  · rw [if_neg h2, if_pos (by omega)]
theorem sz_le {m : Nat} (h : m < 2 ^ 64) : sz m ≤ 64 := by
  unfold sz
  by_cases h0 : m = 0
  · rw [if_pos h0]; omega
  · rw [if_neg h0]
    have := (Nat.log2_lt h0).2 h
    omega

/-- how many of the last bits go -/
def dropOf (m : Nat) (e : Int) : Int := max ((sz m : Int) - 53) (-1074 - e)

theorem last_drop {m : Nat} (h : m ≠ 0) (e : Int) : last m e = e + dropOf m e := by
  unfold last dropOf sz
  rw [if_neg h]
  omega

theorem rung_zero (e : Int) : rung 0 e = 0 := by unfold rung; simp

theorem rung_far {m : Nat} {e : Int} (h : m < 2 ^ 64) (hd : 64 < dropOf m e) : rung m e = 0 := by
  by_cases h0 : m = 0
  · subst h0; exact rung_zero e
  · have hs := sz_le h
    have hL : last m e = -1074 := by rw [last_drop h0]; unfold dropOf at *; omega
    have hk : kept m e = 0 := by
      unfold kept
      rw [hL]
      have e1 : (e - -1074).toNat = 0 := by unfold dropOf at hd; omega
      rw [e1, Nat.pow_zero, Nat.mul_one]
      have hd2 : 65 ≤ (-1074 - e).toNat := by unfold dropOf at hd; omega
      generalize (-1074 - e).toNat = d at *
      have hp : 2 ^ 65 ≤ 2 ^ d := Nat.pow_le_pow_right (by omega) hd2
      unfold rne
      rw [Nat.div_eq_of_lt (by omega), Nat.mod_eq_of_lt (by omega), if_neg (by omega)]
    unfold rung
    rw [if_neg h0, hL, hk]
    rfl

theorem kept_up {m : Nat} {e : Int} (h0 : m ≠ 0) (hd : dropOf m e ≤ 0) : kept m e = m * 2 ^ (- dropOf m e).toNat := by
  unfold kept
  rw [last_drop h0]
  have e1 : (e + dropOf m e - e).toNat = 0 := by omega
  have e2 : (e - (e + dropOf m e)).toNat = (- dropOf m e).toNat := by congr 1; omega
  rw [e1, e2, rne_zero]

theorem kept_down {m : Nat} {e : Int} (h0 : m ≠ 0) (hd : 0 ≤ dropOf m e) : kept m e = rne m (dropOf m e).toNat := by
  unfold kept
  rw [last_drop h0]
  have e1 : (e + dropOf m e - e).toNat = (dropOf m e).toNat := by congr 1; omega
  have e2 : (e - (e + dropOf m e)).toNat = 0 := by omega
  rw [e1, e2, Nat.pow_zero, Nat.mul_one]

theorem rne_64 {m : Nat} (h : m < 2 ^ 64) : rne m 64 = if 2 ^ 63 < m then 1 else 0 := by
  unfold rne
  rw [Nat.div_eq_of_lt h, Nat.mod_eq_of_lt h]
  by_cases c : 2 ^ 63 < m
  · rw [if_pos c, if_pos (by omega)]
  · rw [if_neg c, if_neg (by omega)]

theorem rne_mid (m : Nat) {d : Nat} (hd : 1 ≤ d) : rne m d = m / 2 ^ d + (if 2 ^ (d - 1) < m % 2 ^ d ∨ (m % 2 ^ d = 2 ^ (d - 1) ∧ m / 2 ^ d % 2 = 1) then 1 else 0) := by
  unfold rne
  have e : 2 ^ d = 2 * 2 ^ (d - 1) := by
    conv => lhs; rw [show d = (d - 1) + 1 by omega, Nat.pow_succ]
    omega
  congr 1
  generalize m % 2 ^ d = r at *
  generalize m / 2 ^ d = q at *
  rw [e]
  split <;> split <;> omega
end Go.Proofs.Ytelgmffmekfndaa.Fl
