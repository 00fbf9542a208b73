/- Rounding: the same number of a finer unit; a number told by its highest bits and one bit for the rest. Plain law. No conditions. -/
import Derived.Test.YtelgmffmekfndaaFltA
namespace Go.Proofs.Ytelgmffmekfndaa.Fl

theorem two_pow_pos (k : Nat) : 0 < 2 ^ k := Nat.two_pow_pos k

theorem log2_mul_pow (m k : Nat) (h : m ≠ 0) : (m * 2 ^ k).log2 = m.log2 + k := by
  have hp := two_pow_pos k
  have h1 : m * 2 ^ k ≠ 0 := Nat.mul_ne_zero h (by omega)
  have a : m.log2 + k ≤ (m * 2 ^ k).log2 := by
    rw [Nat.le_log2 h1, Nat.pow_add]
    exact Nat.mul_le_mul_right _ (Nat.log2_self_le h)
  have b : (m * 2 ^ k).log2 < m.log2 + k + 1 := by
    rw [Nat.log2_lt h1, show m.log2 + k + 1 = (m.log2 + 1) + k by omega, Nat.pow_add]
    exact Nat.mul_lt_mul_of_pos_right Nat.lt_log2_self hp
  omega

theorem rne_zero (n : Nat) : rne n 0 = n := by
  unfold rne
  simp [Nat.mod_one]

/-- 'the same number of a finer unit' -/
theorem rne_mul (n d k : Nat) : rne (n * 2 ^ k) (d + k) = rne n d := by
  unfold rne
  have hp := two_pow_pos k
  rw [Nat.pow_add, Nat.mul_mod_mul_right, Nat.mul_div_mul_right _ _ hp]
  congr 1
  have e : 2 * (n % 2 ^ d * 2 ^ k) = (2 * (n % 2 ^ d)) * 2 ^ k := by rw [Nat.mul_assoc]
  rw [e]
  have c1 : (2 ^ d * 2 ^ k < 2 * (n % 2 ^ d) * 2 ^ k) ↔ 2 ^ d < 2 * (n % 2 ^ d) := Nat.mul_lt_mul_right hp
  have c2 : (2 ^ d * 2 ^ k = 2 * (n % 2 ^ d) * 2 ^ k) ↔ 2 ^ d = 2 * (n % 2 ^ d) := Nat.mul_left_inj (by omega)
  simp only [c1, c2]

theorem last_mul (m : Nat) (p : Int) (k : Nat) (h : m ≠ 0) : last (m * 2 ^ k) (p - k) = last m p := by
  unfold last
  rw [log2_mul_pow m k h]
  congr 1
  omega

theorem kept_mul (m : Nat) (p : Int) (k : Nat) (h : m ≠ 0) : kept (m * 2 ^ k) (p - k) = kept m p := by
  unfold kept
  rw [last_mul m p k h]
  generalize last m p = L
  by_cases h1 : L ≤ p - k
  · have e1 : (L - (p - k)).toNat = 0 := by omega
    have e2 : (L - p).toNat = 0 := by omega
    have e3 : (p - L).toNat = (p - k - L).toNat + k := by omega
    rw [e1, e2, e3, rne_zero, rne_zero, Nat.pow_add]
    rw [Nat.mul_assoc, Nat.mul_comm (2 ^ k)]
  · by_cases h2 : L ≤ p
    · have e1 : (p - k - L).toNat = 0 := by omega
      have e2 : (L - p).toNat = 0 := by omega
      have e3 : k = (p - L).toNat + (L - (p - k)).toNat := by omega
      rw [e1, e2, rne_zero]
      generalize (L - (p - k)).toNat = a at *
      generalize (p - L).toNat = b at *
      rw [e3, Nat.pow_add, Nat.pow_zero, Nat.mul_one, ← Nat.mul_assoc]
      have := rne_mul (m * 2 ^ b) 0 a
      rw [Nat.zero_add, rne_zero] at this
      exact this
    · have e1 : (p - k - L).toNat = 0 := by omega
      have e2 : (p - L).toNat = 0 := by omega
      have e3 : (L - (p - k)).toNat = (L - p).toNat + k := by omega
      rw [e1, e2, e3, Nat.pow_zero, Nat.mul_one, Nat.mul_one, rne_mul]

theorem rung_mul (m : Nat) (p : Int) (k : Nat) : rung (m * 2 ^ k) (p - k) = rung m p := by
  unfold rung
  by_cases h : m = 0
  · subst h; simp
  · have h1 : m * 2 ^ k ≠ 0 := Nat.mul_ne_zero h (by have := two_pow_pos k; omega)
    rw [if_neg h, if_neg h1, last_mul m p k h, kept_mul m p k h]

/-- m stands for N / 2^d: just, or, being odd, for whatever lies between its neighbours -/
def Sticky (d N m : Nat) : Prop := N = m * 2 ^ d ∨ (m % 2 = 1 ∧ (m - 1) * 2 ^ d < N ∧ N < (m + 1) * 2 ^ d)

theorem Sticky.log2 {d N m : Nat} (h : Sticky d N m) (h2 : 2 ≤ m) : N.log2 = m.log2 + d := by
  rcases h with rfl | ⟨ho, hl, hh⟩
  · exact log2_mul_pow m d (by omega)
  · have hp := two_pow_pos d
    have hN : N ≠ 0 := by omega
    have hk : 1 ≤ m.log2 := by rw [Nat.le_log2 (by omega)]; omega
    have a0 := Nat.log2_self_le (n := m) (by omega)
    have a1 : m < 2 ^ (m.log2 + 1) := Nat.lt_log2_self
    obtain ⟨k, ek⟩ : ∃ k, m.log2 = k + 1 := ⟨m.log2 - 1, by omega⟩
    rw [ek] at a0 a1 ⊢
    have e0 : 2 ^ (k + 1) = 2 * 2 ^ k := by rw [Nat.pow_succ]; omega
    have e1 : 2 ^ (k + 1 + 1) = 2 * 2 ^ (k + 1) := by rw [Nat.pow_succ 2 (k + 1)]; omega
    have b1 : 2 ^ (k + 1) ≤ m - 1 := by omega
    have b2 : m + 1 ≤ 2 ^ (k + 1 + 1) := by omega
    have c1 : 2 ^ (k + 1 + d) ≤ N := by
      rw [Nat.pow_add]
      exact Nat.le_of_lt (Nat.lt_of_le_of_lt (Nat.mul_le_mul_right _ b1) hl)
    have c2 : N < 2 ^ (k + 1 + d + 1) := by
      rw [show k + 1 + d + 1 = (k + 1 + 1) + d by omega, Nat.pow_add]
      exact Nat.lt_of_lt_of_le hh (Nat.mul_le_mul_right _ b2)
    have := (Nat.le_log2 hN).2 c1
    have := (Nat.log2_lt hN).2 c2
    omega

theorem Sticky.rne {d N m e : Nat} (h : Sticky d N m) (he : 2 ≤ e) : rne N (e + d) = rne m e := by
  rcases h with rfl | ⟨ho, hl, hh⟩
  · exact rne_mul m e d
  · obtain ⟨t, ht⟩ : ∃ t, 2 ^ e = 4 * t := ⟨2 ^ (e - 2), by
      rw [show e = (e - 2) + 2 by omega, Nat.pow_add]
      simp only [Nat.add_sub_cancel]
      omega⟩
    have ht0 : 0 < t := by have := two_pow_pos e; omega
    have hX := two_pow_pos d
    unfold Fl.rne
    rw [Nat.pow_add, ht]
    generalize 2 ^ d = X at *
    have hdm := Nat.div_add_mod m (4 * t)
    have hr := Nat.mod_lt m (show 0 < 4 * t by omega)
    generalize m / (4 * t) = q at *
    generalize m % (4 * t) = r at *
    have hro : r % 2 = 1 := by
      have e1 : 4 * t * q = 2 * (2 * t * q) := by rw [show 4 * t = 2 * (2 * t) by omega, Nat.mul_assoc]
      omega
    -- N lies in (4 t q + r - 1, 4 t q + r + 1) * X
    have e1 : (m - 1) * X = 4 * t * q * X + (r - 1) * X := by rw [← Nat.add_mul]; congr 1; omega
    have e2 : (m + 1) * X = 4 * t * q * X + (r + 1) * X := by rw [← Nat.add_mul]; congr 1; omega
    rw [e1] at hl
    rw [e2] at hh
    have e3 : 4 * t * q * X = 4 * t * X * q := by rw [Nat.mul_right_comm]
    rw [e3] at hl hh
    have hDX : 0 < 4 * t * X := Nat.mul_pos (by omega) hX
    obtain ⟨R, rfl⟩ : ∃ R, N = 4 * t * X * q + R := ⟨N - 4 * t * X * q, by omega⟩
    have hRl : (r - 1) * X < R := by omega
    have hRh : R < (r + 1) * X := by omega
    have hR4 : (r + 1) * X ≤ 4 * t * X := Nat.mul_le_mul_right _ (by omega)
    have hRlt : R < 4 * t * X := by omega
    have d1 : (4 * t * X * q + R) / (4 * t * X) = q := by
      rw [Nat.mul_add_div hDX, Nat.div_eq_of_lt hRlt]; rfl
    have d2 : (4 * t * X * q + R) % (4 * t * X) = R := by
      rw [Nat.mul_add_mod, Nat.mod_eq_of_lt hRlt]
    rw [d1, d2]
    congr 1
    have e4 : 4 * t * X = 2 * (2 * t * X) := by rw [show 4 * t = 2 * (2 * t) by omega, Nat.mul_assoc]
    rw [e4]
    by_cases hc : r < 2 * t
    · have : (r + 1) * X ≤ 2 * t * X := Nat.mul_le_mul_right _ (by omega)
      rw [if_neg (by omega), if_neg (by omega)]
    · have : 2 * t * X ≤ (r - 1) * X := Nat.mul_le_mul_right _ (by omega)
      rw [if_pos (by omega), if_pos (by omega)]

/-- what was cut off, told by the last bit alone, is rounded as the whole is -/
theorem Sticky.rung {d N m : Nat} {p : Int} (h : Sticky d N m) (h54 : 2 ^ 54 ≤ m) : rung N p = Fl.rung m (p + d) := by
  have h2 : 2 ≤ m := Nat.le_trans (by decide) h54
  have hl := h.log2 h2
  have h54' : 54 ≤ m.log2 := (Nat.le_log2 (by omega)).2 h54
  have hN : N ≠ 0 := by
    intro e; subst e
    rw [show Nat.log2 0 = 0 from rfl] at hl
    omega
  unfold Fl.rung
  rw [if_neg hN, if_neg (by omega)]
  have eL : last N p = last m (p + d) := by unfold last; rw [hl]; congr 1; omega
  have hge : p + d + 2 ≤ last m (p + d) := by unfold last; omega
  unfold kept
  rw [eL]
  generalize last m (p + d) = L at *
  have e1 : (p - L).toNat = 0 := by omega
  have e2 : (p + d - L).toNat = 0 := by omega
  have e3 : (L - p).toNat = (L - (p + d)).toNat + d := by omega
  rw [e1, e2, e3, Nat.pow_zero, Nat.mul_one, Nat.mul_one, h.rne (by omega)]
end Go.Proofs.Ytelgmffmekfndaa.Fl
